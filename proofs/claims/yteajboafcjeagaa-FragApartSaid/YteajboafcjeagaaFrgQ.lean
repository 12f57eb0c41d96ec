/-
  Layer 21: frag: Take of a piece of a datagram.
-/
import Derived.Test.YteajboafcjeagaaFrgL
import Derived.Test.YteajboafcjeagaaFrgP
namespace Go.Proofs.Yteajboafcjeagaa
set_option maxRecDepth 20000
open Go.RowKit
set_option linter.unusedVariables false
set_option linter.unusedSimpArgs false
set_option maxHeartbeats 4000000

/-- What a piece comes to: the datagram with it, or all of its bytes. -/
def RetPc (w : World) (l1 l2 : List Fr) (po : OwT) (T : Nat) (body : List UInt8) (hs : Nat → Prop) (e : Ending) (w' : World) : Prop := ∃ x, FrPt po T body hs x ∧ Below w.heap.size w w' ∧
  ((¬ (∀ i, i < body.length → hs i) ∧ ∃ A n c, e = .returned (.tuple #[.slice A n c, .agg pk0, .bool false, .int .i64 0]) ∧ OwFr w' w.heap.size A n c (l1 ++ x :: l2)) ∨
   ((∀ i, i < body.length → hs i) ∧ ∃ A n c B k d, e = .returned (.tuple #[.slice A n c, .agg #[.int .u16 (po.2.2.1 : Int), .bool false, .int .i64 0, .int .i64 po.2.2.2, .int .u32 (po.1 : Int), .int .u32 (po.2.1 : Int), .slice B k d], .bool true, .int .i64 0]) ∧ OwFr w' w.heap.size A n c (l1 ++ l2) ∧ OwnB w' w.heap.size B k d body))
theorem frgTake_pc (A : Option Addr) (n c : Nat) (l l1 l2 : List Fr) (id pl : Nat) (more : Bool) (proto : Int) (src dst : Nat) (B : Option Addr) (m d T : Nat) (body : List UInt8) (hs : Nat → Prop) (now : Nat) (w : World) (hr : RdFr w A n c l) (hS : FrS l) (hn : n ≤ 3) (hb : RdB w B m d ((body.drop pl).take m)) (ho : OwOk (src, dst, id, proto)) (hnow : now ≤ 1000)
    (hp : 0 ≤ proto ∧ proto ≤ 255) (hb1 : 1 ≤ body.length) (hb2 : body.length ≤ 128) (hm1 : 1 ≤ m) (hm : pl + m ≤ body.length) (h8 : pl % 8 = 0) (hmo : more = decide (pl + m < body.length)) (hm8 : more = true → m % 8 = 0) (hnw : ¬ (pl = 0 ∧ more = false))
    (hl : (∃ x, l = l1 ++ x :: l2 ∧ FrPt (src, dst, id, proto) T body hs x) ∨ (l = l1 ∧ l2 = [] ∧ T = now + 30 ∧ (∀ i, ¬ hs i) ∧ ∀ x ∈ l, x.ow ≠ (src, dst, id, proto))) :
    Calls Try.prog 29 #[.slice A n c, .agg #[.int .u16 (id : Int), .bool more, .int .i64 (pl : Int), .int .i64 proto, .int .u32 (src : Int), .int .u32 (dst : Int), .slice B m d], .int .u64 (now : Int)] w (RetPc w l1 l2 (src, dst, id, proto) T body (fun i => hs i ∨ (pl ≤ i ∧ i < pl + m))) := by
  have hc : ipCheck (pl : Int) proto m = true := (ipCheck_iff _ _ _).2 ⟨by omega, by omega, by omega, hp.1, hp.2, by omega⟩
  have hw : ipWhole more (pl : Int) = false := by
    unfold ipWhole
    cases more with
    | true => rfl
    | false => simp; intro h; exact hnw ⟨h, rfl⟩
  have hfit : ∀ lp j, Placed l (src, dst, id, proto) now lp j → FitsY (lp.getD j fr0) more (pl + m) ∧ (fAdd (lp.getD j fr0) pl more ((body.drop pl).take m)).ok ∧ -1 ≤ (fAdd (lp.getD j fr0) pl more ((body.drop pl).take m)).ln ∧ (fAdd (lp.getD j fr0) pl more ((body.drop pl).take m)).ln ≤ 128 := fun lp j hP => by
    obtain ⟨x, hx, rfl, rfl⟩ := placed_of ho hnow hS hl hP
    have e : (l1 ++ x :: l2).getD l1.length fr0 = x := by simp [List.getD]
    rw [e]
    have ha := hx.add hb1 hb2 hm1 hm hmo
    exact ⟨hx.fits hb1 hb2 hm hmo, ha.ok, ha.lnr hb2⟩
  have hmain : Calls Try.prog 29 #[.slice A n c, .agg #[.int .u16 (id : Int), .bool more, .int .i64 (pl : Int), .int .i64 proto, .int .u32 (src : Int), .int .u32 (dst : Int), .slice B m d], .int .u64 (now : Int)] w (RetTa w l id pl more proto src dst ((body.drop pl).take m) now) := by
    cases more with
    | true => exact frgTake_addT A n c l id pl proto src dst B m d _ now w hr hS hn hb ho hnow hc hw hm1 (by omega) hm8 hfit
    | false => exact frgTake_addF A n c l id pl proto src dst B m d _ now w hr hS hn hb ho hnow hc hw hm1 (by omega) hm8 hfit
  refine hmain.mono ?_
  rintro e w' ⟨lp, j, hP, hh⟩
  obtain ⟨x, hx, rfl, rfl⟩ := placed_of ho hnow hS hl hP
  have e1 : (l1 ++ x :: l2).getD l1.length fr0 = x := by simp [List.getD]
  rw [e1] at hh
  have ha := hx.add hb1 hb2 hm1 hm hmo
  have hwh := ha.whole hb1 hb2
  have e2 : ∀ y, (l1 ++ x :: l2).set l1.length y = l1 ++ y :: l2 := fun y => by rw [List.set_append_right _ _ (Nat.le_refl _)]; simp
  have e3 : (l1 ++ x :: l2).take l1.length ++ (l1 ++ x :: l2).drop (l1.length + 1) = l1 ++ l2 := by
    rw [List.take_left' rfl, ← List.drop_drop, List.drop_left' rfl]; rfl
  rw [e2, e3] at hh
  rcases hh with ⟨h1, A', n', c', he, ho', hB⟩ | ⟨h1, A', n', c', B', k, d', he, ho', hob, hB⟩
  · exact ⟨_, ha, hB, .inl ⟨fun h => (by rw [hwh.2 h] at h1; cases h1), A', n', c', he, ho'⟩⟩
  · rw [ha.all hb1 hb2 (hwh.1 h1)] at hob
    exact ⟨_, ha, hB, .inr ⟨hwh.1 h1, A', n', c', B', k, d', he, ho', hob⟩⟩
end Go.Proofs.Yteajboafcjeagaa
