/-
  Layer 21: frag: had, fits, add: a datagram behind a pointer.
-/
import Derived.Test.YteajboafcjeagaaFrgD
import Derived.WalkMore
namespace Go.Proofs.Yteajboafcjeagaa
set_option maxRecDepth 20000
open Go.RowKit
set_option linter.unusedVariables false
set_option linter.unusedSimpArgs false
set_option maxHeartbeats 8000000

/-- The first place, from one on, that is had, or not. -/
def fHad (H : List Bool) (p : Nat) (b : Bool) : Nat := if p < 128 then (if H.getD p false = b then p else fHad H (p + 1) b) else p
termination_by 128 - p
theorem fHad_stop {H : List Bool} {p : Nat} {b : Bool} (h : H.getD p false = b) (hp : p < 128) : fHad H p b = p := by rw [fHad, if_pos hp, if_pos h]
theorem fHad_next {H : List Bool} {p : Nat} {b : Bool} (h : H.getD p false ≠ b) (hp : p < 128) : fHad H p b = fHad H (p + 1) b := by rw [fHad, if_pos hp, if_neg h]
theorem fHad_end {H : List Bool} {p : Nat} {b : Bool} (hp : 128 ≤ p) : fHad H p b = p := by rw [fHad, if_neg (by omega)]
theorem frgHad_any (g o : Nat) (x : Fr) (p : Nat) (b : Bool) (w : World) (hin : FrIn w g o x) (hok : x.ok) (hp : p ≤ 128) :
    Calls Try.prog 55 #[.pointer (some ⟨g, o, none⟩), .int .i64 (p : Int), .bool b] w (fun e w' => e = .returned (.int .i64 (fHad x.H p b : Int)) ∧ w' = w) := by
  have HIN := Lib.hid hin
  have HOK := Lib.hid hok
  clear hin hok
  go_enter Try.func55, Try.ntmps55
  go_wp2_with fail
  go_step3
  go_wp2_with fail
  go_step3
  go_wp2_with fail
  go_loopw [7] (fun i wr => ∃ k : Nat, k ≤ 128 ∧ i = .int .i64 (k : Int) ∧ fHad x.H k b = fHad x.H p b ∧ wr = w) (fun i _ => 128 - (intOf i).toNat)
  case atStart => exact ⟨p, hp, rfl, rfl, rfl⟩
  case round =>
  obtain ⟨k, hk, rfl, he, rfl⟩ := hrel
  have HE := Lib.hid he
  clear he
  by_cases hlt : k < 128
  · have lk : (k : Int) < 128 := by omega
    have ll : decide ((k : Int) < 128) = true := decide_eq_true lk
    have cH := HIN.out.2 (132 + k) _ (frV_H HOK.out k hlt)
    rw [← Nat.add_assoc] at cH
    obtain ⟨q, hq⟩ : ∃ q, x.H.getD k false = q := ⟨_, rfl⟩
    rw [hq] at cH
    have HQ := Lib.hid hq
    clear hq
    by_cases hqb : q = b
    · subst hqb
      have he2 : fHad x.H p q = k := by rw [← HE.out]; exact fHad_stop HQ.out hlt
      have d1 : (q == q) = true := by simp
      go_wp2_with fail
      rw [Exit.noGoto_ret]
      go_ret
      exact ⟨by rw [he2]; rfl, rfl⟩
    · have he2 : Hid (fHad x.H (k + 1) b = fHad x.H p b) := Lib.hid (by rw [← HE.out]; exact (fHad_next (by rw [HQ.out]; exact hqb) hlt).symm)
      have d1 : (q == b) = false := by simpa using hqb
      clear hqb
      go_wp2_with fail
      go_roundw
      case rel => exact ⟨k + 1, by omega, by go_num, he2.out, trivial⟩
      case measure => simp [intOf]; omega
  · obtain rfl : k = 128 := by omega
    have he2 : Hid (fHad x.H p b = 128) := Lib.hid (by rw [← HE.out]; exact fHad_end (Nat.le_refl _))
    go_wp2_with fail
    rw [Exit.noGoto_ret]
    go_ret
    exact ⟨by rw [he2.out]; rfl, rfl⟩
/-- A piece that fits: it may end there. -/
structure FitsY (x : Fr) (more : Bool) (e : Nat) : Prop where
  le : e ≤ 128
  l : x.ln = -1 ∨ (e : Int) ≤ x.ln
  m : more = false → (x.ln = -1 ∨ x.ln = (e : Int)) ∧ fHad x.H e true = 128
theorem frgFits_yes (g o : Nat) (x : Fr) (more : Bool) (e : Nat) (w : World) (hin : FrIn w g o x) (hok : x.ok) (hf : FitsY x more e) :
    Calls Try.prog 52 #[.pointer (some ⟨g, o, none⟩), .bool more, .int .i64 (e : Int)] w (fun e w' => e = .returned (.bool true) ∧ w' = w) := by
  have cl := hin.2 260 _ (frV_ln hok)
  have C := Lib.hid (frgHad_any g o x e true w hin hok hf.le)
  by_cases hl : x.ln = -1
  · have d1 : (x.ln != -1) = false := by simp [hl]
    have hm := hf.m
    have HM := Lib.hid hm
    clear hl hf hm hin
    cases more with
    | true =>
      go_enter Try.func52, Try.ntmps52
      go_wp2_with fail
      go_ret
      exact ⟨rfl, rfl⟩
    | false =>
      rw [(HM.out rfl).2] at C
      go_enter Try.func52, Try.ntmps52
      go_wp2_with fail
      refine C.out.mono ?_
      rintro e_ w1 ⟨rfl, rfl⟩
      go_wp2_with fail
      go_ret
      exact ⟨rfl, rfl⟩
  · have d1 : (x.ln != -1) = true := by simpa using hl
    have d2 : decide (x.ln < (e : Int)) = false := decide_eq_false (by rcases hf.l with h | h; exact absurd h hl; omega)
    have hm : more = false → (x.ln != (e : Int)) = false ∧ fHad x.H e true = 128 := fun h => by
      obtain ⟨h1, h2⟩ := hf.m h
      rcases h1 with h1 | h1
      · exact absurd h1 hl
      · exact ⟨by simp [h1], h2⟩
    have HM := Lib.hid hm
    clear hl hf hm hin
    cases more with
    | true =>
      go_enter Try.func52, Try.ntmps52
      go_wp2_with fail
      go_ret
      exact ⟨rfl, rfl⟩
    | false =>
      rw [(HM.out rfl).2] at C
      have d3 := (HM.out rfl).1
      go_enter Try.func52, Try.ntmps52
      go_wp2_with fail
      refine C.out.mono ?_
      rintro e_ w1 ⟨rfl, rfl⟩
      go_wp2_with fail
      go_ret
      exact ⟨rfl, rfl⟩
end Go.Proofs.Yteajboafcjeagaa
