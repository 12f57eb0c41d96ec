/-
  Layer 12: records (the document): Check, Events, Same.
-/
import Derived.Test.YtnfepikgbdeomaaRecH
namespace Go.Proofs.Ytnfepikgbdeomaa
set_option maxRecDepth 20000
open Go.RowKit
set_option linter.unusedVariables false
set_option linter.unusedSimpArgs false
set_option maxHeartbeats 4000000

theorem refEvents12_self (t : Nat) (k : Int) (cl : Nat) (A : Option Addr) (n c : Nat) (B : Option Addr) (m d : Nat) (xs : List UInt8) (w : World) (h1 : RdB w A n c xs) (h2 : RdB w B m d xs) :
    Calls Try.prog 50 #[.agg #[.int .u64 (t : Int), .int .i64 k, .int .u64 (cl : Int), .slice A n c], .agg #[.int .u64 (t : Int), .int .i64 k, .int .u64 (cl : Int), .slice B m d]] w (RetV w (.bool true)) := by
  obtain ⟨V, hV⟩ : ∃ V, V = (w.alloc (.cells #[.int .u64 (t : Int), .int .i64 k, .int .u64 (cl : Int), .slice A n c] 65)).alloc (.cells #[.int .u64 (t : Int), .int .i64 k, .int .u64 (cl : Int), .slice B m d] 65) := ⟨_, rfl⟩
  have bV : Below w.heap.size w V := by rw [hV]; exact ((below_self w).alloc (Nat.le_refl _) _).alloc (by simp) _
  have hh := bytes_any A B n c m d xs xs V (h1.below bV) (h2.below bV)
  rw [decide_eq_true rfl] at hh
  have HH := Lib.hid hh
  have HV := Lib.hid hV
  clear hh hV
  go_enter Try.func50, Try.ntmps50
  go_wp2_with fail
  rw [← HV.out]
  refine HH.out.mono ?_
  rintro e w2 ⟨rfl, rfl⟩
  go_wp2
  go_ret
  exact ⟨rfl, bV⟩
theorem refSame12_self (r : Rc) (A : Option Addr) (n c : Nat) (B : Option Addr) (m d : Nat) (w : World) (hD : r.D.length = 32) (h1 : RdB w A n c r.b) (h2 : RdB w B m d r.b) :
    Calls Try.prog 45 #[.agg (rcV r A n c).toArray, .agg (rcV r B m d).toArray] w (RetV w (.bool true)) := by
  obtain ⟨V, hV⟩ : ∃ V, V = (w.alloc (.cells (rcV r A n c).toArray 69)).alloc (.cells (rcV r B m d).toArray 69) := ⟨_, rfl⟩
  have bV : Below w.heap.size w V := by rw [hV]; exact ((below_self w).alloc (Nat.le_refl _) _).alloc (by simp) _
  have q1 : RcAt V w.heap.size r A n c := by rw [hV]; exact rw_old _ (rw_at _ rfl)
  have q2 : RcAt V (w.heap.size + 1) r B m d := by rw [hV]; exact rw_at _ (by simp)
  have hh := refEvents12_self r.t r.k r.c A n c B m d r.b V (h1.below bV) (h2.below bV)
  have a0 := q1.c0
  have a1 := q1.c1
  have a2 := q1.c2
  have a3 := q1.c3
  have a4 := q1.c4
  have a5 := q1.c5
  have a6 := q1.c6
  have b0 := q2.c0
  have b1 := q2.c1
  have b2 := q2.c2
  have b3 := q2.c3
  have b4 := q2.c4
  have b5 := q2.c5
  have b6 := q2.c6
  have Q1 := Lib.hid q1
  have Q2 := Lib.hid q2
  have HD := Lib.hid hD
  have kq : ∀ W : World, (Op.equalIn 10000 67 (.agg (r.D.map vB).toArray) (.agg (r.D.map vB).toArray)).run Try.prog W = .ok true W := fun W => (rdig_eq r.D r.D hD hD W).trans (by rw [decide_eq_true rfl])
  have HDZ := Lib.hid (show (Try.prog.info? 67).map (·.size) = some (r.D.map vB).length by rw [List.length_map, hD]; kernel_rfl)
  obtain ⟨R1, hR1⟩ : ∃ z, z = (rcV r A n c).toArray := ⟨_, rfl⟩
  obtain ⟨R2, hR2⟩ : ∃ z, z = (rcV r B m d).toArray := ⟨_, rfl⟩
  rw [← hR1, ← hR2] at hV ⊢
  rw [hV] at a0 a1 a2 a3 a4 a5 a6 b0 b1 b2 b3 b4 b5 b6
  have HH := Lib.hid hh
  have HV := Lib.hid hV
  clear hh hV q1 q2 hR1 hR2 hD
  go_enter Try.func45, Try.ntmps45
  go_wp2_with (rw [← HV.out]; first
    | (refine wpList_unguard (by rfl) (wpList_load_mid rfl 67 _ rfl w.heap.size 7 rfl (r.D.map vB) _ (rd_range (Q1.out.dig HD.out)) Try.underlying67 rfl HDZ.out ?_); rw [HV.out])
    | (refine wpList_unguard (by rfl) (wpList_load_mid rfl 67 _ rfl (w.heap.size + 1) 7 rfl (r.D.map vB) _ (rd_range (Q2.out.dig HD.out)) Try.underlying67 rfl HDZ.out ?_); rw [HV.out]))
  rw [← HV.out]
  refine HH.out.mono ?_
  rintro e w2 ⟨rfl, hb2⟩
  go_wp2
  go_ret
  exact ⟨rfl, below_then bV hb2⟩
theorem refCheck12_any (t : Nat) (k : Int) (c : Nat) (A : Option Addr) (n cp : Nat) (w : World) (hn : n ≤ 9223372036854775807) :
    Calls Try.prog 43 #[.agg #[.int .u64 (t : Int), .int .i64 k, .int .u64 (c : Int), .slice A n cp]] w (RetV w (.bool (rcChk k c n))) := by
  have fin : Below w.heap.size w (w.alloc (.cells #[.int .u64 (t : Int), .int .i64 k, .int .u64 (c : Int), .slice A n cp] 65)) := (below_self w).alloc (Nat.le_refl _) _
  rcases rcChk_ways k c n with ⟨lo, hi, h, e⟩ | ⟨h, e⟩
  · rw [e]
    obtain ⟨ci, hci⟩ : ∃ ci : Int, ci = (c : Int) := ⟨_, rfl⟩
    rw [← hci] at h ⊢
    rw [← hci] at fin
    clear hci e
    rcases h with ⟨rfl, h1, rfl, rfl⟩ | ⟨rfl, rfl, rfl, rfl⟩ | ⟨rfl, rfl, rfl, rfl⟩
    · have d1 : decide (ci ≤ 1099511627776) = true := decide_eq_true h1
      by_cases h0 : n = 0
      · subst h0
        go_enter Try.func43, Try.ntmps43
        go_wp2
        go_ret
        exact ⟨rfl, fin⟩
      · have d2 : ((n : Int) == 0) = false := beq_eq_false_iff_ne.2 (by omega)
        have d3 : ¬ ((n : Int) = 0) := by omega
        rw [decide_eq_false (by omega)]
        go_enter Try.func43, Try.ntmps43
        go_wp2
        go_ret
        exact ⟨rfl, fin⟩
    all_goals
      by_cases h0 : (1 : Int) ≤ (n : Int)
      · rw [show decide ((1 : Int) ≤ (n : Int) ∧ (n : Int) ≤ _) = decide ((n : Int) ≤ _) from decide_eq_decide.2 ⟨fun h => h.2, fun h => ⟨h0, h⟩⟩]
        have d2 : decide ((1 : Int) ≤ (n : Int)) = true := decide_eq_true h0
        go_enter Try.func43, Try.ntmps43
        go_wp2
        go_ret
        exact ⟨rfl, fin⟩
      · rw [decide_eq_false (fun h => h0 h.1)]
        have d2 : decide ((1 : Int) ≤ (n : Int)) = false := decide_eq_false h0
        go_enter Try.func43, Try.ntmps43
        go_wp2
        go_ret
        exact ⟨rfl, fin⟩
  · rw [e]
    obtain ⟨ci, hci⟩ : ∃ ci : Int, ci = (c : Int) := ⟨_, rfl⟩
    rw [← hci] at h ⊢
    rw [← hci] at fin
    clear hci e
    rcases h with ⟨rfl, h1⟩ | ⟨rfl, h1⟩ | ⟨rfl, h1⟩ | ⟨h1, h2, h3⟩
    · have d1 : decide (ci ≤ 1099511627776) = false := decide_eq_false h1
      go_enter Try.func43, Try.ntmps43
      go_wp2
      go_ret
      exact ⟨rfl, fin⟩
    · have d2 : (ci == 0) = false := beq_eq_false_iff_ne.2 h1
      go_enter Try.func43, Try.ntmps43
      go_wp2
      go_ret
      exact ⟨rfl, fin⟩
    · have d2 : (ci == 0) = false := beq_eq_false_iff_ne.2 h1
      go_enter Try.func43, Try.ntmps43
      go_wp2
      go_ret
      exact ⟨rfl, fin⟩
    · have d1 : (k == 1) = false := beq_eq_false_iff_ne.2 h1
      have d2 : (k == 2) = false := beq_eq_false_iff_ne.2 h2
      have d3 : (k == 3) = false := beq_eq_false_iff_ne.2 h3
      go_enter Try.func43, Try.ntmps43
      go_wp2
      go_ret
      exact ⟨rfl, fin⟩
end Go.Proofs.Ytnfepikgbdeomaa
