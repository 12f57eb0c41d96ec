/-
  Layer 19: arp: IndexFunc, Find.
-/
import Derived.Test.YtnfepikgbdeomaaArpF
namespace Go.Proofs.Ytnfepikgbdeomaa
set_option maxRecDepth 20000
open Go.RowKit
set_option linter.unusedVariables false
set_option linter.unusedSimpArgs false
set_option maxHeartbeats 8000000

/-- The first place, or none. -/
def RetFx (w : World) (n : Nat) (p : Nat → Bool) (e : Ending) (w' : World) : Prop := ((∃ j : Nat, e = .returned (.int .i64 (j : Int)) ∧ j < n ∧ p j = true ∧ ∀ i, i < j → p i = false) ∨ (e = .returned (.int .i64 (-1)) ∧ ∀ j, j < n → p j = false)) ∧ Below w.heap.size w w'
theorem idxNb_any (ip now g h : Nat) (A : Option Addr) (n c : Nat) (l : List Nb) (w : World) (hr : RdNb w A n c l) (hg : w.heap[g]? = some (.cells #[.int .u32 (ip : Int)] 23 (0, 0))) (hh : w.heap[h]? = some (.cells #[.int .u64 (now : Int)] 42 (0, 0))) :
    Calls Try.prog 107 #[.slice A n c, .func (.func 108) #[] #[.pointer (some ⟨g, 0, none⟩), .pointer (some ⟨h, 0, none⟩)]] w (RetFx w n (fun j => arIs ip now (l.getD j nb0))) := by
  have hn63 := hr.n63
  go_enter Try.func107, Try.ntmps107
  go_wp2_with fail
  go_loopw [8] (ArI w n (fun j => arIs ip now (l.getD j nb0) = false)) (fun i _ => n - (intOf i).toNat)
  case atStart => exact ⟨0, by omega, rfl, fun j hj => by omega, Below.refl _ _⟩
  case round =>
  obtain ⟨k, hk, rfl, hp, hB⟩ := hrel
  obtain ⟨wo, rfl⟩ : ∃ W : World, W = wr := ⟨_, rfl⟩
  have HPp := Lib.hid hp
  clear hp
  by_cases hlt : k < n
  · obtain ⟨b, o, rfl, hb, hok, hin⟩ := (hr.below hB).nb k hlt
    obtain ⟨x, hx⟩ : ∃ x, l.getD k nb0 = x := ⟨_, rfl⟩
    rw [hx] at hok hin
    have lk : (k : Int) < (n : Int) := by omega
    have HX := Lib.hid hx
    have HIN := Lib.hid hin
    have H := Lib.hid (arpFind1_any x ip now g h wo (drw_up hg hB) (drw_up hh hB))
    obtain ⟨T, hT⟩ : ∃ T, arIs ip now x = T := ⟨_, rfl⟩
    rw [hT] at H
    have HT := Lib.hid hT
    clear hx hin hT hg hh
    go_wp2_with (refine nb_mid rfl _ rfl b (o + k * 8) rfl HIN.out ?_)
    refine H.out.mono ?_
    rintro e w2 ⟨rfl, hb2⟩
    cases T with
    | false =>
      go_wp2_with fail
      go_roundw
      case rel => exact ⟨k + 1, by omega, by go_num, ar_next HPp.out (by show arIs ip now (l.getD k nb0) = false; rw [HX.out]; exact HT.out), below_then hB hb2⟩
      case measure => simp [intOf]; omega
    | true =>
      go_wp2_with fail
      go_ret
      exact ⟨.inl ⟨k, rfl, hlt, by show arIs ip now (l.getD k nb0) = true; rw [HX.out]; exact HT.out, HPp.out⟩, below_then hB hb2⟩
  · obtain rfl : n = k := by omega
    go_wp2_with fail
    go_ret
    exact ⟨.inr ⟨rfl, HPp.out⟩, hB⟩
end Go.Proofs.Ytnfepikgbdeomaa
