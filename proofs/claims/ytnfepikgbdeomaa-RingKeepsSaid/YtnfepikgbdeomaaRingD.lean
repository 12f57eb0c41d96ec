/-
  Layer 7: rings: something is done with a ring's numbers.
-/
import Derived.Test.YtnfepikgbdeomaaRingC
namespace Go.Proofs.Ytnfepikgbdeomaa
set_option maxRecDepth 20000
open Go.RowKit
set_option linter.unusedVariables false
set_option linter.unusedSimpArgs false
set_option maxHeartbeats 4000000

theorem ringReading_no (A : Option Addr) (n c : Nat) (b k a : Int) (do_ : Value) (w : World) (hn : n ≤ 9223372036854775807) (hb : -9223372036854775808 ≤ b ∧ b ≤ 9223372036854775807) (hk : -9223372036854775808 ≤ k ∧ k ≤ 9223372036854775807) (h : rgCheck n b k = false) :
    Calls Try.prog 62 #[.agg #[.slice A n c], .int .i64 b, .int .i64 k, .int .i64 a, do_] w (RetV w (.int .i64 70)) := by
  have hh := fun W => ringCheck_any A n c b k W hn hb hk
  rw [h] at hh
  have HH := Lib.hid hh
  clear hh
  obtain ⟨V, hV⟩ : ∃ V, V = w.alloc (.cells #[.slice A n c] 28) := ⟨_, rfl⟩
  have bV : Below w.heap.size w V := by rw [hV]; exact (below_self w).alloc (Nat.le_refl _) _
  have HV := Lib.hid hV
  clear hV
  go_enter Try.func62, Try.ntmps62
  go_wp2_with fail
  rw [← HV.out]
  refine (HH.out V).mono ?_
  rintro e w2 ⟨rfl, hb2⟩
  go_wp2_with fail
  go_ret
  exact ⟨rfl, below_then bV hb2⟩
theorem ringReading_yes (A : Option Addr) (n c : Nat) (xs : List UInt8) (b k a : Int) (F : FuncId) (caps : Array Value) (w : World) (R : World → Nat → World → Prop) (hr : RdB w A n c xs) (hb : -9223372036854775808 ≤ b ∧ b ≤ 9223372036854775807) (hk : -9223372036854775808 ≤ k ∧ k ≤ 9223372036854775807) (h : rgCheck n b k = true) (ha : 0 ≤ a ∧ a ≤ 1000)
    (hF : ∀ (args : Array Value) (W : World), (callFunc F args).run Try.prog W = .ok (.enter F args) W)
    (hdo : ∀ W g, Below w.heap.size w W → w.heap.size ≤ g → W.heap.size = g + 1 → FdAt W g A n c (b + a) → Calls Try.prog F (#[.pointer (some ⟨g, 0, none⟩)] ++ caps) W (fun e w' => e = .returned (.tuple #[]) ∧ R W g w')) :
    Calls Try.prog 62 #[.agg #[.slice A n c], .int .i64 b, .int .i64 k, .int .i64 a, .func (.func F) #[] caps] w (fun e w' => e = .returned (.int .i64 0) ∧ ∃ W g, Below w.heap.size w W ∧ w.heap.size ≤ g ∧ FdAt W g A n c (b + a) ∧ R W g w') := by
  have hn := hr.n63
  have hc := of_decide_eq_true h
  have hh := fun W => ringCheck_any A n c b k W hn hb hk
  rw [h] at hh
  have HH := Lib.hid hh
  have HDO := Lib.hid hdo
  have HFF := Lib.hid hF
  obtain ⟨hc1, hc2, hc3, hc4⟩ := hc
  have hz := (rgSize_le k).2.2 hc2
  have hb1 : 0 ≤ b ∧ b ≤ 8192 := by omega
  clear hh hdo hc4 hz hc2 h hF
  obtain ⟨V, hV⟩ : ∃ V, V = w.alloc (.cells #[.slice A n c] 28) := ⟨_, rfl⟩
  have bV : Below w.heap.size w V := by rw [hV]; exact (below_self w).alloc (Nat.le_refl _) _
  have zV : w.heap.size < V.heap.size := by rw [hV]; simp
  have cV : V.cell? ⟨w.heap.size, 0, none⟩ = some (.slice A n c) := by rw [hV]; exact (alloc_box w _ _ 0).trans rfl
  have HV := Lib.hid hV
  clear hV
  go_enter Try.func62, Try.ntmps62
  go_wp2_with fail
  rw [← HV.out]
  refine (HH.out V).mono ?_
  rintro e w2 ⟨rfl, hb2⟩
  have c2 := (hb2.cell (p := ⟨w.heap.size, 0, none⟩) zV).trans cV
  have B2 := below_then bV hb2
  clear cV
  go_wp2_with fail
  rw [HFF.out]
  have B3 : Below w.heap.size w (w2.alloc (.cells #[.slice A n c, .int .i64 (b + a)] 118)) := B2.alloc B2.size _
  have F3 : FdAt (w2.alloc (.cells #[.slice A n c, .int .i64 (b + a)] 118)) w2.heap.size A n c (b + a) := heap_alloc_new w2 _
  have hcall := HDO.out _ w2.heap.size B3 B2.size (by simp) F3
  go_wp2_with fail
  refine hcall.mono ?_
  rintro e w4 ⟨rfl, hR⟩
  go_wp2_with fail
  go_ret
  exact ⟨rfl, _, _, B3, B2.size, F3, hR⟩
end Go.Proofs.Ytnfepikgbdeomaa
