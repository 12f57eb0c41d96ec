/-
  Layer 20: Put and Get, every way; what is put is got.
-/
import Derived.Test.YtieilgphcfiapaaIpH
import Derived.Test.YtieilgphcfiapaaIpJ
namespace Go.Proofs.Ytieilgphcfiapaa
set_option maxRecDepth 20000
open Go.RowKit
set_option linter.unusedVariables false
set_option linter.unusedSimpArgs false

theorem refGet20_any (A : Option Addr) (n c : Nat) (xs : List UInt8) (w : World) (hr : RdB w A n c xs) :
    Calls Try.prog 33 #[.slice A n c] w (RetPk w (ipGet xs) (ipGetE xs)) := by
  have hl := hr.2.1
  unfold ipGet
  rcases get_cases xs with ⟨h1, h2⟩ | ⟨h1, h2, h3⟩ | ⟨⟨h1, h2, h3, h4, h5, h6, h7⟩, h8⟩
  · rw [h2, if_neg (by decide)]
    exact refGet20_short A n c xs w hr (by omega)
  · rw [if_neg h3]
    rw [hl] at h2 h1
    exact refGet20_refused A n c xs w hr h1 _ h2
  · rw [hl] at h1 h2
    rcases h8 with ⟨g1, g2⟩ | ⟨g1, g2⟩
    · rw [g2, if_pos rfl]
      exact refGet20_main A n c xs w hr h1 h2 h3 h4 h5 h6 h7 _ _ (.inl ⟨g1, rfl, rfl⟩)
    · rw [g2, if_neg (by decide)]
      exact refGet20_main A n c xs w hr h1 h2 h3 h4 h5 h6 h7 _ _ (.inr ⟨g1, rfl, rfl⟩)

theorem ipPut_any (id : Nat) (more : Bool) (place proto : Int) (src dst : Nat) (A : Option Addr) (n c : Nat) (xs : List UInt8) (w : World) (hid : id < 65536) (hp : -9223372036854775808 ≤ place ∧ place ≤ 9223372036854775807) (ho : -9223372036854775808 ≤ proto ∧ proto ≤ 9223372036854775807) (hsrc : src < 4294967296) (hdst : dst < 4294967296) (hr : RdB w A n c xs) :
    Calls Try.prog 30 #[.agg #[.int .u16 id, .bool more, .int .i64 place, .int .i64 proto, .int .u32 src, .int .u32 dst, .slice A n c]] w (RetBE w (ipPutL id more place proto src dst xs) (ipPutE place proto xs)) := by
  have hl := hr.2.1
  unfold ipPutL ipPutE
  rw [hl]
  cases hc : ipCheck place proto n with
  | false =>
    rw [if_neg (by decide), if_neg (by decide)]
    exact ipPut_no id more place proto src dst A n c xs w hid hp ho hsrc hdst hr hc
  | true =>
    rw [if_pos rfl, if_pos rfl]
    obtain ⟨g1, g2, g3, g4, g5, g6⟩ := (ipCheck_iff _ _ _).1 hc
    obtain ⟨q, rfl⟩ : ∃ q : Nat, place = ((8 * q : Nat) : Int) := ⟨(place / 8).toNat, by omega⟩
    obtain ⟨r, rfl⟩ : ∃ r : Nat, proto = (r : Nat) := ⟨proto.toNat, by omega⟩
    have e1 : ipPl ((8 * q : Nat) : Int) more = q + (if more = true then 8192 else 0) := by unfold ipPl; congr 1; omega
    rw [e1, Int.toNat_natCast]
    refine ipPut_yes id more q r src dst A n c xs w hid (by omega) (by omega) hsrc hdst hr g6 _ ?_
    cases more
    · exact .inr ⟨rfl, rfl⟩
    · exact .inl ⟨rfl, rfl⟩
theorem refPut20_any (id : Nat) (more : Bool) (place proto : Int) (src dst : Nat) (A : Option Addr) (n c : Nat) (xs : List UInt8) (w : World) (hid : id < 65536) (hp : -9223372036854775808 ≤ place ∧ place ≤ 9223372036854775807) (ho : -9223372036854775808 ≤ proto ∧ proto ≤ 9223372036854775807) (hsrc : src < 4294967296) (hdst : dst < 4294967296) (hr : RdB w A n c xs) :
    Calls Try.prog 31 #[.agg #[.int .u16 id, .bool more, .int .i64 place, .int .i64 proto, .int .u32 src, .int .u32 dst, .slice A n c]] w (RetBE w (ipPutL id more place proto src dst xs) (ipPutE place proto xs)) := by
  have hl := hr.2.1
  unfold ipPutL ipPutE
  rw [hl]
  cases hc : ipCheck place proto n with
  | false =>
    rw [if_neg (by decide), if_neg (by decide)]
    exact refPut20_no id more place proto src dst A n c xs w hid hp ho hsrc hdst hr hc
  | true =>
    rw [if_pos rfl, if_pos rfl]
    obtain ⟨g1, g2, g3, g4, g5, g6⟩ := (ipCheck_iff _ _ _).1 hc
    obtain ⟨q, rfl⟩ : ∃ q : Nat, place = ((8 * q : Nat) : Int) := ⟨(place / 8).toNat, by omega⟩
    obtain ⟨r, rfl⟩ : ∃ r : Nat, proto = (r : Nat) := ⟨proto.toNat, by omega⟩
    have e1 : ipPl ((8 * q : Nat) : Int) more = q + (if more = true then 8192 else 0) := by unfold ipPl; congr 1; omega
    rw [e1, Int.toNat_natCast]
    refine refPut20_yes id more q r src dst A n c xs w hid (by omega) (by omega) hsrc hdst hr g6 _ ?_
    cases more
    · exact .inr ⟨rfl, rfl⟩
    · exact .inl ⟨rfl, rfl⟩
end Go.Proofs.Ytieilgphcfiapaa
