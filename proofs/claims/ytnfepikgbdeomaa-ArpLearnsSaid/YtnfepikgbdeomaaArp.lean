/-
  Layer 19: arp: neighbours, comparing.
-/
import Derived.Test.YtnfepikgbdeomaaEth
import Derived.Test.YtnfepikgbdeomaaAid
namespace Go.Proofs.Ytnfepikgbdeomaa
set_option maxRecDepth 20000
open Go.RowKit
set_option linter.unusedVariables false
set_option linter.unusedSimpArgs false
set_option maxHeartbeats 4000000

structure Nb where
  ip : Nat
  m : Mc
  t : Nat
/-- A neighbour's eight cells. -/
def nbV (x : Nb) : List Value := [.int .u32 (x.ip : Int), .int .u8 (x.m.a0.toNat : Int), .int .u8 (x.m.a1.toNat : Int), .int .u8 (x.m.a2.toNat : Int), .int .u8 (x.m.a3.toNat : Int), .int .u8 (x.m.a4.toNat : Int), .int .u8 (x.m.a5.toNat : Int), .int .u64 (x.t : Int)]
def nbA (x : Nb) : Array Value := #[.int .u32 (x.ip : Int), .int .u8 (x.m.a0.toNat : Int), .int .u8 (x.m.a1.toNat : Int), .int .u8 (x.m.a2.toNat : Int), .int .u8 (x.m.a3.toNat : Int), .int .u8 (x.m.a4.toNat : Int), .int .u8 (x.m.a5.toNat : Int), .int .u64 (x.t : Int)]
theorem nbV_len (x : Nb) : (nbV x).length = 8 := rfl
theorem nbs_get (i : Nat) (hi : i < 8) : ∀ (l : List Nb) (k : Nat), (l.flatMap nbV)[k * 8 + i]? = l[k]?.bind (fun x => (nbV x)[i]?)
  | [], k => by simp
  | x :: l, 0 => by
    rw [List.flatMap_cons, List.getElem?_append_left (by rw [nbV_len]; omega)]
    simp
  | x :: l, k + 1 => by
    rw [List.flatMap_cons, List.getElem?_append_right (by rw [nbV_len]; omega), nbV_len, show (k + 1) * 8 + i - 8 = k * 8 + i by omega, nbs_get i hi l k]
    simp
theorem nbs_len (l : List Nb) : (l.flatMap nbV).length = 8 * l.length := by
  induction l with
  | nil => rfl
  | cons x l ih => rw [List.flatMap_cons, List.length_append, ih, nbV_len, List.length_cons]; omega
def Nb.ok (x : Nb) : Prop := x.ip < 4294967296 ∧ x.t < 18446744073709551616
/-- Neighbours that are read. -/
def RdNb (w : World) (A : Option Addr) (n c : Nat) (l : List Nb) : Prop := Rd w A (l.flatMap nbV) ∧ l.length = n ∧ n ≤ c ∧ c ≤ maxLen ∧ ∀ x ∈ l, x.ok
theorem RdNb.below {w w' : World} {A : Option Addr} {n c : Nat} {l : List Nb} (h : RdNb w A n c l) (hb : Below w.heap.size w w') : RdNb w' A n c l := ⟨h.1.below hb, h.2⟩
theorem RdNb.n63 {w : World} {A : Option Addr} {n c : Nat} {l : List Nb} (h : RdNb w A n c l) : n ≤ 9223372036854775807 := by have := h.2.2; unfold maxLen at this; omega
theorem RdNb.at_ {w : World} {A : Option Addr} {n c : Nat} {l : List Nb} (h : RdNb w A n c l) (k : Nat) (hk : k < n) : ∃ b o x, A = some ⟨b, o, none⟩ ∧ b < w.heap.size ∧ l[k]? = some x ∧ x.ok ∧ ∀ i v, (nbV x)[i]? = some v → w.cell? ⟨b, o + (k * 8 + i), none⟩ = some v := by
  obtain ⟨hr, hl, _, _, hok⟩ := h
  have hk' : k < l.length := by omega
  obtain ⟨b, o, rfl, hb, _⟩ := hr.at_ 0 (by rw [nbs_len]; omega)
  refine ⟨b, o, l[k], rfl, hb, List.getElem?_eq_getElem hk', hok _ (List.getElem_mem hk'), fun i v hv => ?_⟩
  have hi : i < 8 := by have := (List.getElem?_eq_some_iff.1 hv).1; rw [nbV_len] at this; exact this
  obtain ⟨b', o', he, _, hc⟩ := hr.at_ (k * 8 + i) (by rw [nbs_len]; omega)
  injection he with he; injection he with e1 e2; subst e1 e2
  have hg := nbs_get i hi l k
  rw [List.getElem?_eq_getElem hk'] at hg
  refine hc.trans ((List.getElem?_eq_getElem _).symm.trans (hg.trans ?_))
  simpa using hv
/-- What comparing answers. -/
def cmpN (a b : Nat) : Int := if a < b then -1 else if b < a then 1 else 0
theorem isNaN32_any (a : Int) (w : World) : Calls Try.prog 160 #[.int .u32 a] w (fun e w' => e = .returned (.bool false) ∧ w' = w) := by
  have h : (a != a) = false := by simp
  go_enter Try.func160, Try.ntmps160
  go_wp2
  go_ret
  exact ⟨rfl, rfl⟩
theorem isNaN64_any (a : Int) (w : World) : Calls Try.prog 161 #[.int .u64 a] w (fun e w' => e = .returned (.bool false) ∧ w' = w) := by
  have h : (a != a) = false := by simp
  go_enter Try.func161, Try.ntmps161
  go_wp2
  go_ret
  exact ⟨rfl, rfl⟩
theorem compare32_any (a b : Nat) (w : World) : Calls Try.prog 137 #[.int .u32 (a : Int), .int .u32 (b : Int)] w (fun e w' => e = .returned (.int .i64 (cmpN a b)) ∧ w' = w) := by
  unfold cmpN
  by_cases h : a < b
  · rw [if_pos h]
    have d1 : decide ((a : Int) < (b : Int)) = true := decide_eq_true (by omega)
    go_enter Try.func137, Try.ntmps137
    go_wp2_with fail
    refine (isNaN32_any _ _).mono ?_
    rintro e w1 ⟨rfl, rfl⟩
    go_wp2_with fail
    refine (isNaN32_any _ _).mono ?_
    rintro e w1 ⟨rfl, rfl⟩
    go_wp2_with fail
    go_ret
    exact ⟨rfl, rfl⟩
  · rw [if_neg h]
    have d1 : decide ((a : Int) < (b : Int)) = false := decide_eq_false (by omega)
    by_cases h2 : b < a
    · rw [if_pos h2]
      have d2 : decide ((b : Int) < (a : Int)) = true := decide_eq_true (by omega)
      go_enter Try.func137, Try.ntmps137
      go_wp2_with fail
      refine (isNaN32_any _ _).mono ?_
      rintro e w1 ⟨rfl, rfl⟩
      go_wp2_with fail
      refine (isNaN32_any _ _).mono ?_
      rintro e w1 ⟨rfl, rfl⟩
      go_wp2_with fail
      go_ret
      exact ⟨rfl, rfl⟩
    · rw [if_neg h2]
      have d2 : decide ((b : Int) < (a : Int)) = false := decide_eq_false (by omega)
      go_enter Try.func137, Try.ntmps137
      go_wp2_with fail
      refine (isNaN32_any _ _).mono ?_
      rintro e w1 ⟨rfl, rfl⟩
      go_wp2_with fail
      refine (isNaN32_any _ _).mono ?_
      rintro e w1 ⟨rfl, rfl⟩
      go_wp2_with fail
      go_ret
      exact ⟨rfl, rfl⟩
theorem compare64_any (a b : Nat) (w : World) : Calls Try.prog 141 #[.int .u64 (a : Int), .int .u64 (b : Int)] w (fun e w' => e = .returned (.int .i64 (cmpN a b)) ∧ w' = w) := by
  unfold cmpN
  by_cases h : a < b
  · rw [if_pos h]
    have d1 : decide ((a : Int) < (b : Int)) = true := decide_eq_true (by omega)
    go_enter Try.func141, Try.ntmps141
    go_wp2_with fail
    refine (isNaN64_any _ _).mono ?_
    rintro e w1 ⟨rfl, rfl⟩
    go_wp2_with fail
    refine (isNaN64_any _ _).mono ?_
    rintro e w1 ⟨rfl, rfl⟩
    go_wp2_with fail
    go_ret
    exact ⟨rfl, rfl⟩
  · rw [if_neg h]
    have d1 : decide ((a : Int) < (b : Int)) = false := decide_eq_false (by omega)
    by_cases h2 : b < a
    · rw [if_pos h2]
      have d2 : decide ((b : Int) < (a : Int)) = true := decide_eq_true (by omega)
      go_enter Try.func141, Try.ntmps141
      go_wp2_with fail
      refine (isNaN64_any _ _).mono ?_
      rintro e w1 ⟨rfl, rfl⟩
      go_wp2_with fail
      refine (isNaN64_any _ _).mono ?_
      rintro e w1 ⟨rfl, rfl⟩
      go_wp2_with fail
      go_ret
      exact ⟨rfl, rfl⟩
    · rw [if_neg h2]
      have d2 : decide ((b : Int) < (a : Int)) = false := decide_eq_false (by omega)
      go_enter Try.func141, Try.ntmps141
      go_wp2_with fail
      refine (isNaN64_any _ _).mono ?_
      rintro e w1 ⟨rfl, rfl⟩
      go_wp2_with fail
      refine (isNaN64_any _ _).mono ?_
      rintro e w1 ⟨rfl, rfl⟩
      go_wp2_with fail
      go_ret
      exact ⟨rfl, rfl⟩
theorem byIP_any (x y : Nb) (w : World) : Calls Try.prog 112 #[.agg (nbA x), .agg (nbA y)] w (RetV w (.int .i64 (cmpN x.ip y.ip))) := by
  unfold nbA
  go_enter Try.func112, Try.ntmps112
  go_wp2_with fail
  refine (compare32_any _ _ _).mono ?_
  rintro e w1 ⟨rfl, rfl⟩
  go_wp2_with fail
  go_ret
  exact ⟨rfl, ((below_self w).alloc (Nat.le_refl _) _).alloc (by simp) _⟩
end Go.Proofs.Ytnfepikgbdeomaa
