/-
  Layer 19: arp: Expire of one neighbour whose time is over.
-/
import Derived.Test.YtnfepikgbdeomaaArpN
namespace Go.Proofs.Ytnfepikgbdeomaa
set_option maxRecDepth 20000
open Go.RowKit
set_option linter.unusedVariables false
set_option linter.unusedSimpArgs false
set_option maxHeartbeats 8000000

theorem arpExpire1_any (x : Nb) (now h : Nat) (w : World) (hh : w.heap[h]? = some (.cells #[.int .u64 (now : Int)] 42 (0, 0))) (hx : x.t ≤ now) :
    Calls Try.prog 135 #[.agg (nbA x), .pointer (some ⟨h, 0, none⟩)] w (RetV w (.bool true)) := by
  obtain ⟨V, hV⟩ : ∃ V, V = w.alloc (.cells (nbA x) 109) := ⟨_, rfl⟩
  have bV : Below w.heap.size w V := by rw [hV]; exact (below_self w).alloc (Nat.le_refl _) _
  have q : NbAt V w.heap.size x := by rw [hV]; exact drw_at _ rfl
  have x7 := q.c7
  have ch : V.cell? ⟨h, 0, none⟩ = some (.int .u64 (now : Int)) := (cell_of_row V h 0 _ _ _ (drw_up hh bV)).trans rfl
  have d1 : decide ((x.t : Int) ≤ (now : Int)) = true := decide_eq_true (by omega)
  have d2 : decide (x.t ≤ now) = true := decide_eq_true hx
  have HV := Lib.hid hV
  clear hV hh q hx
  go_enter Try.func135, Try.ntmps135
  go_wp2_with (rw [← HV.out])
  go_ret
  exact ⟨rfl, bV⟩
theorem idxEx_any (A : Option Addr) (c : Nat) (x : Nb) (now h : Nat) (w : World) (hr : RdNb w A 1 c [x]) (hh : w.heap[h]? = some (.cells #[.int .u64 (now : Int)] 42 (0, 0))) (hx : x.t ≤ now) :
    Calls Try.prog 107 #[.slice A 1 c, .func (.func 135) #[] #[.pointer (some ⟨h, 0, none⟩)]] w (RetV w (.int .i64 0)) := by
  obtain ⟨b, o, rfl, hb, hok, hin⟩ := hr.nb 0 (by omega)
  rw [Nat.zero_mul, Nat.add_zero] at hin
  have hin : NbIn w b o x := hin
  have HIN := Lib.hid hin
  have H := Lib.hid (arpExpire1_any x now h w hh hx)
  clear hr hh hx hin
  go_enter Try.func107, Try.ntmps107
  go_wp2_with fail
  go_loopw [8] (fun i wr => i = .int .i64 0 ∧ wr = w) (fun i _ => 0)
  case atStart => exact ⟨rfl, rfl⟩
  case round =>
  obtain ⟨rfl, rfl⟩ := hrel
  go_wp2_with (refine nb_mid rfl _ rfl b o rfl HIN.out ?_)
  refine H.out.mono ?_
  rintro e w2 ⟨rfl, hb2⟩
  go_wp2_with fail
  go_ret
  exact ⟨rfl, hb2⟩
def RetN0 (w : World) (base : Nat) (e : Ending) (w' : World) : Prop := ∃ A c, e = .returned (.slice A 0 c) ∧ Below base w w'
theorem delEx_any (base : Nat) (A : Option Addr) (c : Nat) (x : Nb) (now h : Nat) (w : World) (hown : OwNb w base A 1 c [x]) (hok : x.ok) (hbw : base ≤ w.heap.size) (hh : w.heap[h]? = some (.cells #[.int .u64 (now : Int)] 42 (0, 0))) (hx : x.t ≤ now) :
    Calls Try.prog 134 #[.slice A 1 c, .func (.func 135) #[] #[.pointer (some ⟨h, 0, none⟩)]] w (RetN0 w base) := by
  have hr : RdNb w A 1 c [x] := hown.rd (fun y hy => by simp at hy; rw [hy]; exact hok)
  have H := Lib.hid (idxEx_any A c x now h w hr hh hx)
  obtain ⟨g, zs, rfl, hb, hrow, hz, hnc, hcm, ht, hl⟩ := hown.row (by omega)
  have hc63 : c ≤ 9223372036854775807 := by unfold maxLen at hcm; omega
  have HROW := Lib.hid hrow
  have HZ := Lib.hid hz
  have hc0 : ¬ (c = 0) := by omega
  have w1 : IntKind.i64.wrap (0 + 1) = 1 := by decide
  clear hown hr hrow hz ht hh
  go_enter Try.func134, Try.ntmps134
  go_wp2_with fail
  refine H.out.mono ?_
  rintro e w2 ⟨rfl, hb2⟩
  go_wp2_with fail
  go_loopw [5, 6] (fun q i wr => q = .int .i64 0 ∧ i = .int .i64 1 ∧ wr = w2) (fun q i _ => 0)
  case atStart => exact ⟨rfl, rfl, rfl⟩
  case round =>
  obtain ⟨rfl, rfl, rfl⟩ := hrel
  obtain ⟨w3, hr3, hW3⟩ := run_clearK elemNb (by decide) (HROW.out.up hb2) 94 0 1 c (by rw [HZ.out]; omega)
  have HW3 := Lib.hid hW3
  have HR3 := Lib.hid hr3
  clear hW3 hr3
  go_wp2_with (refine wp_clearRun rfl _ _ rfl _ rfl HR3.out ?_)
  go_ret
  exact ⟨_, _, rfl, (hb2.mono hbw).trans (HW3.out.below base hb)⟩
theorem arpExpire_any (A : Option Addr) (c : Nat) (x : Nb) (now : Nat) (w : World) (hr : RdNb w A 1 c [x]) (hok : nbOk [x] = true) (hx : x.t ≤ now) :
    Calls Try.prog 100 #[.slice A 1 c, .int .u64 (now : Int)] w (RetN0 w w.heap.size) := by
  obtain ⟨V, hV⟩ : ∃ V, V = w.alloc (.cells #[.int .u64 (now : Int)] 42) := ⟨_, rfl⟩
  have bV : Below w.heap.size w V := by rw [hV]; exact (below_self w).alloc (Nat.le_refl _) _
  have qV : V.heap[w.heap.size]? = some (.cells #[.int .u64 (now : Int)] 42 (0, 0)) := by rw [hV]; exact drw_at _ rfl
  have HV := Lib.hid hV
  have HQ := Lib.hid qV
  have HR := Lib.hid hr
  have hxo : x.ok := hr.2.2.2.2 x (by simp)
  have C1 := Lib.hid (arpCheck_any A 1 c [x] V (hr.below bV))
  rw [hok] at C1
  clear hV qV hr hok
  go_enter Try.func100, Try.ntmps100
  go_wp2_with fail
  rw [← HV.out]
  refine C1.out.mono ?_
  rintro e w1 ⟨rfl, hb1⟩
  have B1 := below_then bV hb1
  go_wp2_with fail
  refine (cloneNb_any A 1 c [x] w1 (HR.out.below B1) (by omega)).mono ?_
  rintro e w2 ⟨A2, c2, rfl, o2, hb2⟩
  have B2 := below_then B1 hb2
  go_wp2_with fail
  refine (delEx_any w1.heap.size A2 c2 x now w.heap.size w2 o2 hxo hb2.size (drw_up (drw_up HQ.out hb1) hb2) hx).mono ?_
  rintro e w3 ⟨A3, c3, rfl, hb3⟩
  go_wp2_with fail
  go_ret
  exact ⟨A3, c3, rfl, B2.trans (hb3.mono B1.size)⟩
end Go.Proofs.Ytnfepikgbdeomaa
