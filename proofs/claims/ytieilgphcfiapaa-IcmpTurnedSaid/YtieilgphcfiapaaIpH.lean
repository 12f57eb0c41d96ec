/-
  Layer 20: Get of the package, every way.
-/
import Derived.Test.YtieilgphcfiapaaIpG
namespace Go.Proofs.Ytieilgphcfiapaa
set_option maxRecDepth 20000
open Go.RowKit
set_option linter.unusedVariables false
set_option linter.unusedSimpArgs false

def ipGet (xs : List UInt8) : Pk := if ipGetE xs = 0 then ipGetP xs else pkZero
theorem u8_ne (u v : UInt8) (h : u ≠ v) : (u.toNat : Int) ≠ (v.toNat : Int) := fun e => h (UInt8.toNat_inj.1 (by omega))
/-- Which way a text goes. -/
theorem get_cases (xs : List UInt8) : (xs.length < 20 ∧ ipGetE xs = 5) ∨
    (20 ≤ xs.length ∧ GetWay xs.length (fld xs 2 2) (fld xs 6 2) ((xs.getD 0 0).toNat : Int) ((xs.getD 8 0).toNat : Int) (numCheck (xs.take 20)) (ipGetE xs) ∧ ipGetE xs ≠ 0) ∨
    ((20 ≤ xs.length ∧ fld xs 2 2 ≤ xs.length ∧ xs.getD 0 0 = 69 ∧ 20 ≤ fld xs 2 2 ∧ fld xs 6 2 < 32768 ∧ numCheck (xs.take 20) = 0 ∧ xs.getD 8 0 ≠ 0) ∧ ((fld xs 2 2 ≤ 166 ∧ ipGetE xs = 0) ∨ (166 < fld xs 2 2 ∧ ipGetE xs = 2))) := by
  unfold ipGetE GetWay
  have c69 : ((69 : UInt8).toNat : Int) = 69 := rfl
  have c00 : ((0 : UInt8).toNat : Int) = 0 := rfl
  by_cases h1 : xs.length < 20
  · left; rw [if_pos h1]; exact ⟨h1, rfl⟩
  · right
    rw [if_neg h1]
    by_cases h2 : xs.length < fld xs 2 2
    · left; rw [if_pos h2]; exact ⟨by omega, .inl ⟨h2, rfl⟩, by decide⟩
    · rw [if_neg h2]
      by_cases h3 : xs.getD 0 0 ≠ 69 ∨ fld xs 2 2 < 20 ∨ 32768 ≤ fld xs 6 2
      · left
        rw [if_pos h3]
        refine ⟨by omega, .inr ?_, by decide⟩
        by_cases h4 : xs.getD 0 0 = 69
        · have e4 : ((xs.getD 0 0).toNat : Int) = 69 := by rw [h4]; rfl
          have h3b := h3.resolve_left (fun e => e h4)
          by_cases h5 : fld xs 2 2 < 20
          · exact .inr (.inl ⟨by omega, e4, h5, rfl⟩)
          · exact .inr (.inr (.inl ⟨by omega, e4, by omega, by omega, rfl⟩))
        · exact .inl ⟨by omega, u8_ne _ 69 h4, rfl⟩
      · rw [if_neg h3]
        have h3c : ¬ (fld xs 2 2 < 20 ∨ 32768 ≤ fld xs 6 2) := fun e => h3 (.inr e)
        have h3a : xs.getD 0 0 = 69 := by
          by_cases e : xs.getD 0 0 = 69
          · exact e
          · exact absurd (.inl e) h3
        have e4 : ((xs.getD 0 0).toNat : Int) = 69 := by rw [h3a]; rfl
        by_cases h5 : numCheck (xs.take 20) ≠ 0
        · left; rw [if_pos h5]
          exact ⟨by omega, .inr (.inr (.inr (.inr (.inl ⟨by omega, e4, by omega, by omega, h5, rfl⟩)))), by decide⟩
        · rw [if_neg h5]
          have h5' : numCheck (xs.take 20) = 0 := Decidable.not_not.1 h5
          by_cases h6 : xs.getD 8 0 = 0
          · left; rw [if_pos h6]
            exact ⟨by omega, .inr (.inr (.inr (.inr (.inr ⟨by omega, e4, by omega, by omega, h5', by rw [h6]; rfl, rfl⟩)))), by decide⟩
          · right; rw [if_neg h6]
            refine ⟨⟨by omega, by omega, h3a, by omega, by omega, h5', h6⟩, ?_⟩
            by_cases h7 : 166 < fld xs 2 2
            · right; rw [if_pos h7]; exact ⟨h7, rfl⟩
            · left; rw [if_neg h7]; exact ⟨by omega, rfl⟩

theorem ipGet_any (A : Option Addr) (n c : Nat) (xs : List UInt8) (w : World) (hr : RdB w A n c xs) :
    Calls Try.prog 32 #[.slice A n c] w (RetPk w (ipGet xs) (ipGetE xs)) := by
  have hl := hr.2.1
  unfold ipGet
  rcases get_cases xs with ⟨h1, h2⟩ | ⟨h1, h2, h3⟩ | ⟨⟨h1, h2, h3, h4, h5, h6, h7⟩, h8⟩
  · rw [h2, if_neg (by decide)]
    exact ipGet_short A n c xs w hr (by omega)
  · rw [if_neg h3]
    rw [hl] at h2 h1
    exact ipGet_refused A n c xs w hr h1 _ h2
  · rw [hl] at h1 h2
    rcases h8 with ⟨g1, g2⟩ | ⟨g1, g2⟩
    · rw [g2, if_pos rfl]
      exact ipGet_main A n c xs w hr h1 h2 h3 h4 h5 h6 h7 _ _ (.inl ⟨g1, rfl, rfl⟩)
    · rw [g2, if_neg (by decide)]
      exact ipGet_main A n c xs w hr h1 h2 h3 h4 h5 h6 h7 _ _ (.inr ⟨g1, rfl, rfl⟩)
end Go.Proofs.Ytieilgphcfiapaa
