/-
  Layer 13: the laws SuperBack, SuperOld.
-/
import Derived.Test.YtmbdfanaegadjaaSupK
namespace Go.Proofs.Ytmbdfanaegadjaa
set_option maxRecDepth 20000
open Go.RowKit
set_option linter.unusedVariables false
set_option linter.unusedSimpArgs false
set_option maxHeartbeats 8000000

theorem suCh_ok (a b : List UInt8) : (suCh a b).ok := by
  have h : ∀ c, (suGet c).ok := fun c => by
    have := suGet_bounds c
    exact ⟨this.1, by omega, by omega, suGet_len c⟩
  have hz : suZ.ok := ⟨by decide, by decide, by decide, rfl⟩
  unfold suCh
  split
  · exact h a
  · split
    · exact h b
    · exact hz
theorem supBack_main (s : Su) (A : Option Addr) (n c : Nat) (xs : List UInt8) (w : World) (hs : s.ok) (hr : RdB w A n c xs) (hcs : suCheck s.s s.l = true) (hn : n ≤ 252) :
    Calls Try.prog 5 #[.agg s.v, .slice A n c] w (RetV w (.bool true)) := by
  have d1 : decide ((252 : Int) < (n : Int)) = false := decide_eq_false (by omega)
  have HS0 := Lib.hid (suRow1 w s)
  have HSL := Lib.hid hs.2.2.2
  obtain ⟨hgE, hgX⟩ := suGet_put s.g s.s s.l s.D hs.1 hcs HSL.out
  obtain ⟨P, hP⟩ : ∃ P, suPutL s.g s.s s.l s.D = P := ⟨_, rfl⟩
  rw [hP] at hgE hgX
  obtain ⟨C, hC⟩ : ∃ C, closed13 xs = C := ⟨_, rfl⟩
  obtain ⟨x, hx⟩ : ∃ x, suGet C = x := ⟨_, rfl⟩
  obtain ⟨E, hE⟩ : ∃ x, suGetE C = x := ⟨_, rfl⟩
  have hxl := suGet_len C
  have hxb := suGet_bounds C
  have hok := suGet_ok C
  rw [hx] at hxl hxb hok
  rw [hE] at hok
  have HP := Lib.hid hP
  have HC := Lib.hid hC
  have HX := Lib.hid hx
  have HE := Lib.hid hE
  have HXL := Lib.hid hxl
  have HXB := Lib.hid hxb
  have HOK := Lib.hid hok
  have HGE := Lib.hid hgE
  have HGX := Lib.hid hgX
  have HCS := Lib.hid hcs
  clear hP hC hx hE hxl hxb hok hgE hgX hcs
  go_enter Try.func5, Try.ntmps5
  go_wp2_with (refine su_load rfl _ rfl w.heap.size rfl s HS0.out HSL.out ?_)
  refine named ?_
  intro W hW
  have bW : Below w.heap.size w W := by rw [hW]; repeat' (first | exact Below.refl _ _ | (refine Below.alloc ?_ ?_ _; rotate_left; (simp <;> omega)) | refine Below.drew ?_)
  have zW := bW.size
  have HW := Lib.hid hW
  clear hW
  have xW : w.heap.size < W.heap.size := by rw [HW.out]; simp
  have hsW : W.heap[w.heap.size]? = some (.cells s.v 26 (0, 0)) := by rw [HW.out]; exact HS0.out
  have HSW := Lib.hid hsW
  clear hsW
  have hh := refsuCheck_any s.g s.s s.l s.D W hs.2.1 HSL.out
  rw [HCS.out] at hh
  refine hh.mono ?_
  clear hh
  rintro e w1 ⟨rfl, hb1⟩
  have z1 := hb1.size
  have HS1 := Lib.hid ((hb1.block _ xW).trans HSW.out)
  go_wp2_with (refine su_load rfl _ rfl w.heap.size rfl s HS1.out HSL.out ?_)
  have hh := suPut_any s.g s.s s.l s.D w1 hs.1 hs.2.1 HSL.out
  rw [HP.out, show suPutE s.s s.l = 0 by unfold suPutE; rw [if_pos HCS.out]] at hh
  refine hh.mono ?_
  clear hh
  rintro e w2 ⟨A2, n2, c2, rfl, ho2, hb2⟩
  have z2 := hb2.size
  go_wp2_with fail
  have hh := suGet_any A2 n2 c2 P w2 ho2.rd
  rw [HGE.out, HGX.out] at hh
  refine hh.mono ?_
  clear hh
  rintro e u3 ⟨rfl, hb3⟩
  have z3 := hb3.size
  have HA3 := Lib.hid (allocZ u3)
  go_wp2_with (refine su_store rfl _ _ rfl u3.heap.size rfl s suZ rfl HA3.out HSL.out suZ_len ?_; obtain ⟨V3, hV⟩ : ∃ V, V = (u3.alloc (.cells #[.int .u32 0, .int .i64 0, .int .i64 0, .int .u8 0, .int .u8 0, .int .u8 0, .int .u8 0, .int .u8 0, .int .u8 0, .int .u8 0, .int .u8 0, .int .u8 0, .int .u8 0, .int .u8 0, .int .u8 0, .int .u8 0, .int .u8 0, .int .u8 0, .int .u8 0, .int .u8 0, .int .u8 0, .int .u8 0, .int .u8 0, .int .u8 0, .int .u8 0, .int .u8 0, .int .u8 0, .int .u8 0, .int .u8 0, .int .u8 0, .int .u8 0, .int .u8 0, .int .u8 0, .int .u8 0, .int .u8 0] 26)).setRow u3.heap.size s.v := ⟨_, rfl⟩; rw [← hV]; obtain ⟨hrV3, hbV3, hzV3⟩ := storedZ _ hV; have hlV3 := Nat.le_of_eq hzV3; have hgV3 := Nat.le_of_eq hzV3.symm; have HRV3 := Lib.hid hrV3; clear hV hzV3 hrV3)
  have B3 := below_then bW (below_then hb1 (below_then hb2 (below_then hb3 hbV3)))
  have hh := closed13_any A n c xs V3 (hr.below B3) (by omega)
  rw [HC.out] at hh
  refine hh.mono ?_
  clear hh
  rintro e w4 ⟨A4, n4, c4, rfl, ho4, hb4⟩
  have z4 := hb4.size
  go_wp2_with fail
  have hh := suGet_any A4 n4 c4 C w4 ho4.rd
  rw [HE.out, HX.out] at hh
  refine hh.mono ?_
  clear hh
  rintro e u5 ⟨rfl, hb5⟩
  have z5 := hb5.size
  have HA5 := Lib.hid (allocZ u5)
  have b35 := below_then hb4 hb5
  have HR5 := Lib.hid ((b35.block u3.heap.size (by omega)).trans HRV3.out)
  have b15 := below_then hb2 (below_then hb3 (below_then hbV3 b35))
  have HS5 := Lib.hid ((b15.block w.heap.size (by omega)).trans HS1.out)
  have B5 := below_then B3 b35
  have q := fun V : World => (run_eql_su V s s hs hs).trans (by rw [decide_eq_true rfl])
  have Q9 := Lib.hid q
  clear q
  by_cases he : E = 0
  · subst he
    have OK4 := Lib.hid (HOK.out rfl).2.2.2.1
    have OK5 := Lib.hid (HOK.out rfl).2.2.2.2
    go_wp2_with (first
      | (refine su_store rfl _ _ rfl u5.heap.size rfl x suZ rfl HA5.out HXL.out suZ_len ?_; obtain ⟨V5, hV⟩ : ∃ V, V = (u5.alloc (.cells #[.int .u32 0, .int .i64 0, .int .i64 0, .int .u8 0, .int .u8 0, .int .u8 0, .int .u8 0, .int .u8 0, .int .u8 0, .int .u8 0, .int .u8 0, .int .u8 0, .int .u8 0, .int .u8 0, .int .u8 0, .int .u8 0, .int .u8 0, .int .u8 0, .int .u8 0, .int .u8 0, .int .u8 0, .int .u8 0, .int .u8 0, .int .u8 0, .int .u8 0, .int .u8 0, .int .u8 0, .int .u8 0, .int .u8 0, .int .u8 0, .int .u8 0, .int .u8 0, .int .u8 0, .int .u8 0, .int .u8 0] 26)).setRow u5.heap.size x.v := ⟨_, rfl⟩; rw [← hV]; obtain ⟨hrV5, hbV5, hzV5⟩ := storedZ _ hV; have hlV5 := Nat.le_of_eq hzV5; have hgV5 := Nat.le_of_eq hzV5.symm; have HRV5 := Lib.hid hrV5; clear hV hzV5 hrV5)
      | (refine su_load rfl _ rfl u5.heap.size rfl x HRV5.out HXL.out ?_))
    have hh := suPut_any x.g x.s x.l x.D V5 HXB.out.1 (by have := HXB.out; omega) HXL.out
    rw [OK5.out, show suPutE x.s x.l = 0 by unfold suPutE; rw [if_pos OK4.out]] at hh
    refine hh.mono ?_
    clear hh
    rintro e w6 ⟨A6, n6, c6, rfl, ho6, hb6⟩
    have z6 := hb6.size
    have B6 := below_then B5 (below_then hbV5 hb6)
    go_wp2_with fail
    have hh := closed13_any A n c xs w6 (hr.below B6) (by omega)
    rw [HC.out] at hh
    refine hh.mono ?_
    clear hh
    rintro e w7 ⟨A7, n7, c7, rfl, ho7, hb7⟩
    have z7 := hb7.size
    go_wp2_with fail
    refine (bytes_any A6 A7 n6 c6 n7 c7 C C w7 (ho6.rd.below hb7) ho7.rd).mono ?_
    rintro e w8 ⟨rfl, rfl⟩
    rw [decide_eq_true rfl]
    have b57 := below_then hbV5 (below_then hb6 hb7)
    have HR7 := Lib.hid ((b57.block u3.heap.size (by omega)).trans HR5.out)
    have HS7 := Lib.hid ((b57.block w.heap.size (by omega)).trans HS5.out)
    go_wp2_with (first
      | (refine su_loadG (by rfl) _ rfl w.heap.size rfl s HS7.out HSL.out ?_)
      | (refine su_loadG (by rfl) _ rfl u3.heap.size rfl s HR7.out HSL.out ?_; have q9 := Q9.out))
    refine (heads13 _).mono ?_
    rintro e w9 ⟨rfl, hb9⟩
    go_wp2
    go_ret
    exact ⟨rfl, below_then B6 (below_then hb7 hb9)⟩
  · have hq : (E == 0) = false := by rw [beq_eq_false_iff_ne]; exact he
    clear he
    go_wp2_with (first
      | (refine su_store rfl _ _ rfl u5.heap.size rfl x suZ rfl HA5.out HXL.out suZ_len ?_; obtain ⟨V5, hV⟩ : ∃ V, V = (u5.alloc (.cells #[.int .u32 0, .int .i64 0, .int .i64 0, .int .u8 0, .int .u8 0, .int .u8 0, .int .u8 0, .int .u8 0, .int .u8 0, .int .u8 0, .int .u8 0, .int .u8 0, .int .u8 0, .int .u8 0, .int .u8 0, .int .u8 0, .int .u8 0, .int .u8 0, .int .u8 0, .int .u8 0, .int .u8 0, .int .u8 0, .int .u8 0, .int .u8 0, .int .u8 0, .int .u8 0, .int .u8 0, .int .u8 0, .int .u8 0, .int .u8 0, .int .u8 0, .int .u8 0, .int .u8 0, .int .u8 0, .int .u8 0] 26)).setRow u5.heap.size x.v := ⟨_, rfl⟩; rw [← hV]; obtain ⟨hrV5, hbV5, hzV5⟩ := storedZ _ hV; have hlV5 := Nat.le_of_eq hzV5; have hgV5 := Nat.le_of_eq hzV5.symm; have HR7 := Lib.hid ((hbV5.block u3.heap.size (by omega)).trans HR5.out); have HS7 := Lib.hid ((hbV5.block w.heap.size (by omega)).trans HS5.out); clear hV hzV5 hrV5)
      | (refine su_loadG (by rfl) _ rfl w.heap.size rfl s HS7.out HSL.out ?_)
      | (refine su_loadG (by rfl) _ rfl u3.heap.size rfl s HR7.out HSL.out ?_; have q9 := Q9.out))
    refine (heads13 _).mono ?_
    rintro e w9 ⟨rfl, hb9⟩
    go_wp2
    go_ret
    exact ⟨rfl, below_then B5 (below_then hbV5 hb9)⟩

theorem supBack_early (s : Su) (A : Option Addr) (n c : Nat) (xs : List UInt8) (w : World) (hs : s.ok) (hr : RdB w A n c xs) (h : suCheck s.s s.l = false ∨ (suCheck s.s s.l = true ∧ 252 < n)) :
    Calls Try.prog 5 #[.agg s.v, .slice A n c] w (RetV w (.bool true)) := by
  have hn := hr.n63
  have HS0 := Lib.hid (suRow1 w s)
  have HSL := Lib.hid hs.2.2.2
  rcases h with h | ⟨h, h2⟩
  · have HCS := Lib.hid h
    clear h
    go_enter Try.func5, Try.ntmps5
    go_wp2_with (refine su_load rfl _ rfl w.heap.size rfl s HS0.out HSL.out ?_)
    refine named ?_
    intro W hW
    have bW : Below w.heap.size w W := by rw [hW]; repeat' (first | exact Below.refl _ _ | (refine Below.alloc ?_ ?_ _; rotate_left; (simp <;> omega)) | refine Below.drew ?_)
    have zW := bW.size
    have HW := Lib.hid hW
    clear hW
    have hh := refsuCheck_any s.g s.s s.l s.D W hs.2.1 HSL.out
    rw [HCS.out] at hh
    refine hh.mono ?_
    clear hh
    rintro e w1 ⟨rfl, hb1⟩
    go_wp2_with fail
    refine (heads13 _).mono ?_
    rintro e w9 ⟨rfl, hb9⟩
    go_wp2
    go_ret
    exact ⟨rfl, below_then bW (below_then hb1 hb9)⟩
  · have HCS := Lib.hid h
    have d1 : decide ((252 : Int) < (n : Int)) = true := decide_eq_true (by omega)
    clear h h2
    go_enter Try.func5, Try.ntmps5
    go_wp2_with (refine su_load rfl _ rfl w.heap.size rfl s HS0.out HSL.out ?_)
    refine named ?_
    intro W hW
    have bW : Below w.heap.size w W := by rw [hW]; repeat' (first | exact Below.refl _ _ | (refine Below.alloc ?_ ?_ _; rotate_left; (simp <;> omega)) | refine Below.drew ?_)
    have zW := bW.size
    have HW := Lib.hid hW
    clear hW
    have hh := refsuCheck_any s.g s.s s.l s.D W hs.2.1 HSL.out
    rw [HCS.out] at hh
    refine hh.mono ?_
    clear hh
    rintro e w1 ⟨rfl, hb1⟩
    go_wp2_with fail
    refine (heads13 _).mono ?_
    rintro e w9 ⟨rfl, hb9⟩
    go_wp2
    go_ret
    exact ⟨rfl, below_then bW (below_then hb1 hb9)⟩
theorem superBack_law (g : Nat) (sl l : Int) (D : List UInt8) (A : Option Addr) (n c : Nat) (xs : List UInt8) (w : World) (hg : g < 4294967296) (hsl : -9223372036854775808 ≤ sl ∧ sl ≤ 9223372036854775807) (hl : -9223372036854775808 ≤ l ∧ l ≤ 9223372036854775807) (hD : D.length = 32) (hr : RdB w A n c xs) :
    Calls Try.prog 5 #[.agg (suV g sl l D), .slice A n c] w (RetV w (.bool true)) := by
  have hs : (⟨g, sl, l, D⟩ : Su).ok := ⟨hg, hsl, hl, hD⟩
  cases h : suCheck sl l with
  | false => exact supBack_early ⟨g, sl, l, D⟩ A n c xs w hs hr (.inl h)
  | true =>
    by_cases hn : n ≤ 252
    · exact supBack_main ⟨g, sl, l, D⟩ A n c xs w hs hr h hn
    · exact supBack_early ⟨g, sl, l, D⟩ A n c xs w hs hr (.inr ⟨h, by omega⟩)

theorem supOld_early (s : Su) (A : Option Addr) (n c : Nat) (xs : List UInt8) (w : World) (hs : s.ok) (hr : RdB w A n c xs) (h : suCheck s.s s.l = false ∨ (suCheck s.s s.l = true ∧ 300 < n) ∨ (suCheck s.s s.l = true ∧ n ≤ 300 ∧ s.g = 0) ∨ (suCheck s.s s.l = true ∧ n ≤ 300 ∧ s.g = 4294967295)) :
    Calls Try.prog 6 #[.agg s.v, .slice A n c] w (RetV w (.bool true)) := by
  have hn := hr.n63
  have HS0 := Lib.hid (suRow1 w s)
  have HSL := Lib.hid hs.2.2.2
  rcases h with h | ⟨h, h2⟩ | ⟨h, h2, h3⟩ | ⟨h, h2, h3⟩
  · skip
    have HCS := Lib.hid h
    clear h
    go_enter Try.func6, Try.ntmps6
    go_wp2_with (refine su_load rfl _ rfl w.heap.size rfl s HS0.out HSL.out ?_)
    refine named ?_
    intro W hW
    have bW : Below w.heap.size w W := by rw [hW]; repeat' (first | exact Below.refl _ _ | (refine Below.alloc ?_ ?_ _; rotate_left; (simp <;> omega)) | refine Below.drew ?_)
    have zW := bW.size
    have HW := Lib.hid hW
    clear hW
    have xW : w.heap.size < W.heap.size := by rw [HW.out]; simp
    have hsW : W.heap[w.heap.size]? = some (.cells s.v 26 (0, 0)) := by rw [HW.out]; exact HS0.out
    have hh := refsuCheck_any s.g s.s s.l s.D W hs.2.1 HSL.out
    rw [HCS.out] at hh
    refine hh.mono ?_
    clear hh
    rintro e w1 ⟨rfl, hb1⟩
    have cs1 := Su.cell0 ((hb1.block _ xW).trans hsW)
    clear hsW
    go_wp2_with fail
    refine (heads13 _).mono ?_
    rintro e w9 ⟨rfl, hb9⟩
    go_wp2
    go_ret
    exact ⟨rfl, below_then bW (below_then hb1 hb9)⟩
  · skip
    have HCS := Lib.hid h
    clear h
    have d1 : decide ((300 : Int) < (n : Int)) = true := decide_eq_true (by omega)
    clear h2
    go_enter Try.func6, Try.ntmps6
    go_wp2_with (refine su_load rfl _ rfl w.heap.size rfl s HS0.out HSL.out ?_)
    refine named ?_
    intro W hW
    have bW : Below w.heap.size w W := by rw [hW]; repeat' (first | exact Below.refl _ _ | (refine Below.alloc ?_ ?_ _; rotate_left; (simp <;> omega)) | refine Below.drew ?_)
    have zW := bW.size
    have HW := Lib.hid hW
    clear hW
    have xW : w.heap.size < W.heap.size := by rw [HW.out]; simp
    have hsW : W.heap[w.heap.size]? = some (.cells s.v 26 (0, 0)) := by rw [HW.out]; exact HS0.out
    have hh := refsuCheck_any s.g s.s s.l s.D W hs.2.1 HSL.out
    rw [HCS.out] at hh
    refine hh.mono ?_
    clear hh
    rintro e w1 ⟨rfl, hb1⟩
    have cs1 := Su.cell0 ((hb1.block _ xW).trans hsW)
    clear hsW
    go_wp2_with fail
    refine (heads13 _).mono ?_
    rintro e w9 ⟨rfl, hb9⟩
    go_wp2
    go_ret
    exact ⟨rfl, below_then bW (below_then hb1 hb9)⟩
  · skip
    have HCS := Lib.hid h
    clear h
    have d1 : decide ((300 : Int) < (n : Int)) = false := decide_eq_false (by omega)
    have d2 : ((s.g : Int) == 0) = true := by rw [h3]; rfl
    clear h2 h3
    go_enter Try.func6, Try.ntmps6
    go_wp2_with (refine su_load rfl _ rfl w.heap.size rfl s HS0.out HSL.out ?_)
    refine named ?_
    intro W hW
    have bW : Below w.heap.size w W := by rw [hW]; repeat' (first | exact Below.refl _ _ | (refine Below.alloc ?_ ?_ _; rotate_left; (simp <;> omega)) | refine Below.drew ?_)
    have zW := bW.size
    have HW := Lib.hid hW
    clear hW
    have xW : w.heap.size < W.heap.size := by rw [HW.out]; simp
    have hsW : W.heap[w.heap.size]? = some (.cells s.v 26 (0, 0)) := by rw [HW.out]; exact HS0.out
    have hh := refsuCheck_any s.g s.s s.l s.D W hs.2.1 HSL.out
    rw [HCS.out] at hh
    refine hh.mono ?_
    clear hh
    rintro e w1 ⟨rfl, hb1⟩
    have cs1 := Su.cell0 ((hb1.block _ xW).trans hsW)
    clear hsW
    go_wp2_with fail
    refine (heads13 _).mono ?_
    rintro e w9 ⟨rfl, hb9⟩
    go_wp2
    go_ret
    exact ⟨rfl, below_then bW (below_then hb1 hb9)⟩
  · skip
    have HCS := Lib.hid h
    clear h
    have d1 : decide ((300 : Int) < (n : Int)) = false := decide_eq_false (by omega)
    have d2 : ((s.g : Int) == 0) = false := by rw [h3]; rfl
    have d3 : ((s.g : Int) == 4294967295) = true := by rw [h3]; rfl
    clear h2 h3
    go_enter Try.func6, Try.ntmps6
    go_wp2_with (refine su_load rfl _ rfl w.heap.size rfl s HS0.out HSL.out ?_)
    refine named ?_
    intro W hW
    have bW : Below w.heap.size w W := by rw [hW]; repeat' (first | exact Below.refl _ _ | (refine Below.alloc ?_ ?_ _; rotate_left; (simp <;> omega)) | refine Below.drew ?_)
    have zW := bW.size
    have HW := Lib.hid hW
    clear hW
    have xW : w.heap.size < W.heap.size := by rw [HW.out]; simp
    have hsW : W.heap[w.heap.size]? = some (.cells s.v 26 (0, 0)) := by rw [HW.out]; exact HS0.out
    have hh := refsuCheck_any s.g s.s s.l s.D W hs.2.1 HSL.out
    rw [HCS.out] at hh
    refine hh.mono ?_
    clear hh
    rintro e w1 ⟨rfl, hb1⟩
    have cs1 := Su.cell0 ((hb1.block _ xW).trans hsW)
    clear hsW
    go_wp2_with fail
    refine (heads13 _).mono ?_
    rintro e w9 ⟨rfl, hb9⟩
    go_wp2
    go_ret
    exact ⟨rfl, below_then bW (below_then hb1 hb9)⟩
theorem supOld_main (s : Su) (A : Option Addr) (n c : Nat) (xs : List UInt8) (w : World) (hs : s.ok) (hr : RdB w A n c xs) (hcs : suCheck s.s s.l = true) (hn : n ≤ 300) (hg0 : s.g ≠ 0) (hg1 : s.g ≠ 4294967295) :
    Calls Try.prog 6 #[.agg s.v, .slice A n c] w (RetV w (.bool true)) := by
  have d1 : decide ((300 : Int) < (n : Int)) = false := decide_eq_false (by omega)
  have d2 : ((s.g : Int) == 0) = false := by rw [beq_eq_false_iff_ne]; omega
  have d3 : ((s.g : Int) == 4294967295) = false := by rw [beq_eq_false_iff_ne]; omega
  have HS0 := Lib.hid (suRow1 w s)
  have HSL := Lib.hid hs.2.2.2
  obtain ⟨o0, o1⟩ := suOld s.g s.s s.l s.D xs hs.1 hcs HSL.out
  obtain ⟨P, hP⟩ : ∃ P, suPutL s.g s.s s.l s.D = P := ⟨_, rfl⟩
  rw [hP] at o0 o1
  obtain ⟨y, hy⟩ : ∃ x, suGet xs = x := ⟨_, rfl⟩
  obtain ⟨E, hE⟩ : ∃ x, suGetE xs = x := ⟨_, rfl⟩
  have hyl := suGet_len xs
  have hyb := suGet_bounds xs
  rw [hy] at hyl hyb o0 o1
  rw [hE] at o0 o1
  have HYok : y.ok := ⟨hyb.1, by omega, by omega, hyl⟩
  have HP := Lib.hid hP
  have HY := Lib.hid hy
  have HE := Lib.hid hE
  have HYL := Lib.hid hyl
  have HCS := Lib.hid hcs
  have O0 := Lib.hid o0
  have O1 := Lib.hid o1
  clear hP hy hE hyl hyb hcs o0 o1 hg0 hg1 hn
  go_enter Try.func6, Try.ntmps6
  go_wp2_with (refine su_load rfl _ rfl w.heap.size rfl s HS0.out HSL.out ?_)
  refine named ?_
  intro W hW
  have bW : Below w.heap.size w W := by rw [hW]; repeat' (first | exact Below.refl _ _ | (refine Below.alloc ?_ ?_ _; rotate_left; (simp <;> omega)) | refine Below.drew ?_)
  have zW := bW.size
  have HW := Lib.hid hW
  clear hW
  have xW : w.heap.size < W.heap.size := by rw [HW.out]; simp
  have hsW : W.heap[w.heap.size]? = some (.cells s.v 26 (0, 0)) := by rw [HW.out]; exact HS0.out
  have HSW := Lib.hid hsW
  clear hsW
  have hh := refsuCheck_any s.g s.s s.l s.D W hs.2.1 HSL.out
  rw [HCS.out] at hh
  refine hh.mono ?_
  clear hh
  rintro e w1 ⟨rfl, hb1⟩
  have z1 := hb1.size
  have HS1 := Lib.hid ((hb1.block _ xW).trans HSW.out)
  have cs1 := Su.cell0 HS1.out
  go_wp2_with (refine su_load rfl _ rfl w.heap.size rfl s HS1.out HSL.out ?_)
  clear cs1
  have hh := suPut_any s.g s.s s.l s.D w1 hs.1 hs.2.1 HSL.out
  rw [HP.out, show suPutE s.s s.l = 0 by unfold suPutE; rw [if_pos HCS.out]] at hh
  refine hh.mono ?_
  clear hh
  rintro e w2 ⟨A2, n2, c2, rfl, ho2, hb2⟩
  have z2 := hb2.size
  have B2 := below_then bW (below_then hb1 hb2)
  go_wp2_with fail
  obtain ⟨x1, hx1⟩ : ∃ x, suCh P xs = x := ⟨_, rfl⟩
  obtain ⟨E1, hE1⟩ : ∃ x, suChE P xs = x := ⟨_, rfl⟩
  have hh := suChoose_any A2 n2 c2 P A n c xs w2 ho2.rd (hr.below B2)
  have hx1l := chAt_len P xs 2
  have hx1g := chAt_g P xs 2
  have hx1ok : x1.ok := by
    rw [← hx1]; exact suCh_ok P xs
  rw [hx1, hE1] at hh
  have HX1 := Lib.hid hx1
  have HE1 := Lib.hid hE1
  have HX1L := Lib.hid hx1ok.2.2.2
  clear hx1 hE1 hx1l hx1g
  refine hh.mono ?_
  clear hh
  rintro e u3 ⟨rfl, hb3⟩
  have z3 := hb3.size
  have HA3 := Lib.hid (allocZ u3)
  have HS3 := Lib.hid (((below_then hb2 hb3).block w.heap.size (by omega)).trans HS1.out)
  go_wp2_with (refine su_store rfl _ _ rfl u3.heap.size rfl x1 suZ rfl HA3.out HX1L.out suZ_len ?_; obtain ⟨V3, hV⟩ : ∃ V, V = (u3.alloc (.cells #[.int .u32 0, .int .i64 0, .int .i64 0, .int .u8 0, .int .u8 0, .int .u8 0, .int .u8 0, .int .u8 0, .int .u8 0, .int .u8 0, .int .u8 0, .int .u8 0, .int .u8 0, .int .u8 0, .int .u8 0, .int .u8 0, .int .u8 0, .int .u8 0, .int .u8 0, .int .u8 0, .int .u8 0, .int .u8 0, .int .u8 0, .int .u8 0, .int .u8 0, .int .u8 0, .int .u8 0, .int .u8 0, .int .u8 0, .int .u8 0, .int .u8 0, .int .u8 0, .int .u8 0, .int .u8 0, .int .u8 0] 26)).setRow u3.heap.size x1.v := ⟨_, rfl⟩; rw [← hV]; obtain ⟨hrV3, hbV3, hzV3⟩ := storedZ _ hV; have hlV3 := Nat.le_of_eq hzV3; have hgV3 := Nat.le_of_eq hzV3.symm; have HRV3 := Lib.hid hrV3; have HSV3 := Lib.hid ((hbV3.block w.heap.size (by omega)).trans HS3.out); have csV := Su.cell0 HSV3.out; clear hV hzV3 hrV3)
  refine (suHome_any s.g V3 hs.1).mono ?_
  rintro e w9 ⟨rfl, rfl⟩
  clear csV
  have B3 := below_then B2 (below_then hb3 hbV3)
  by_cases hp : s.g % 2 = 1
  · rw [hp]
    obtain ⟨oE, oX⟩ := O1.out hp
    have OE := Lib.hid oE
    have OX := Lib.hid oX
    clear hp oE oX
    obtain ⟨x2, hx2⟩ : ∃ x, suCh xs P = x := ⟨_, rfl⟩
    have hx2ok : x2.ok := by rw [← hx2]; exact suCh_ok xs P
    have HX2L := Lib.hid hx2ok.2.2.2
    go_wp2_with fail
    have hh := suChoose_any A n c xs A2 n2 c2 P V3 (hr.below B3) (ho2.rd.below (below_then hb3 hbV3))
    rw [OE.out, hx2] at hh
    have OX2 := OX.out
    rw [hx2] at OX2
    have OXH := Lib.hid OX2
    clear hx2 OX2
    refine hh.mono ?_
    clear hh
    rintro e u4 ⟨rfl, hb4⟩
    have z4 := hb4.size
    have HR4 := Lib.hid ((hb4.block u3.heap.size (by omega)).trans HRV3.out)
    have HS4 := Lib.hid ((hb4.block w.heap.size (by omega)).trans HSV3.out)
    go_wp2_with (refine su_store rfl _ _ rfl u3.heap.size rfl x2 x1 rfl HR4.out HX2L.out HX1L.out ?_; obtain ⟨V4, hV⟩ : ∃ V, V = u4.setRow u3.heap.size x2.v := ⟨_, rfl⟩; rw [← hV]; have hbV4 : Below u3.heap.size u4 V4 := (by rw [hV]; exact below_setRow (Below.refl _ _) (Nat.le_refl _) _); have hszl : V4.heap.size ≤ u4.heap.size := (by rw [hV]; simp); have hszg := hbV4.size; have HRV4 := Lib.hid (show V4.heap[u3.heap.size]? = some (.cells x2.v 26 (0, 0)) by rw [hV]; exact setRow_heap _ _ _ x2.v _ _ HR4.out); have HSV4 := Lib.hid ((hbV4.block w.heap.size (by omega)).trans HS4.out); clear hV)
    have B4 : Below w.heap.size w V4 := (below_then B3 hb4).trans (hbV4.mono (by have := B2.size; omega))
    go_wp2_with fail
    have hh := suGet_any A n c xs V4 (hr.below B4)
    rw [HE.out, HY.out] at hh
    refine hh.mono ?_
    clear hh
    rintro e u5 ⟨rfl, hb5⟩
    have z5 := hb5.size
    have HA5 := Lib.hid (allocZ u5)
    have zz3 := hbV3.size
    have HR5 := Lib.hid ((hb5.block u3.heap.size (by omega)).trans HRV4.out)
    have HS5 := Lib.hid ((hb5.block w.heap.size (by omega)).trans HSV4.out)
    rcases OXH.out with hsx | ⟨h1, h2, h3⟩
    · obtain rfl : x2 = s := hsx
      have q := fun V : World => (run_eql_su V x2 x2 hs hs).trans (by rw [decide_eq_true rfl])
      have Q9 := Lib.hid q
      clear q
      go_wp2_with (first
        | (refine su_store rfl _ _ rfl u5.heap.size rfl y suZ rfl HA5.out HYL.out suZ_len ?_; obtain ⟨V5, hV⟩ : ∃ V, V = (u5.alloc (.cells #[.int .u32 0, .int .i64 0, .int .i64 0, .int .u8 0, .int .u8 0, .int .u8 0, .int .u8 0, .int .u8 0, .int .u8 0, .int .u8 0, .int .u8 0, .int .u8 0, .int .u8 0, .int .u8 0, .int .u8 0, .int .u8 0, .int .u8 0, .int .u8 0, .int .u8 0, .int .u8 0, .int .u8 0, .int .u8 0, .int .u8 0, .int .u8 0, .int .u8 0, .int .u8 0, .int .u8 0, .int .u8 0, .int .u8 0, .int .u8 0, .int .u8 0, .int .u8 0, .int .u8 0, .int .u8 0, .int .u8 0] 26)).setRow u5.heap.size y.v := ⟨_, rfl⟩; rw [← hV]; obtain ⟨hrV5, hbV5, hzV5⟩ := storedZ _ hV; have hlV5 := Nat.le_of_eq hzV5; have hgV5 := Nat.le_of_eq hzV5.symm; have HR7 := Lib.hid ((hbV5.block u3.heap.size (by omega)).trans HR5.out); have HS7 := Lib.hid ((hbV5.block w.heap.size (by omega)).trans HS5.out); clear hV hzV5 hrV5)
        | (refine su_loadG (by rfl) _ rfl u3.heap.size rfl x2 HR7.out HSL.out ?_)
        | (refine su_loadG (by rfl) _ rfl w.heap.size rfl x2 HS7.out HSL.out ?_; have q9 := Q9.out))
      refine (heads13 _).mono ?_
      rintro e w9 ⟨rfl, hb9⟩
      go_wp2
      go_ret
      exact ⟨rfl, below_then B4 (below_then hb5 (below_then hbV5 hb9))⟩
    · obtain rfl : x2 = y := h2
      have hne : ¬ x2 = s := fun h => by rw [h] at h3; exact Nat.lt_irrefl _ h3
      have q := fun V : World => (run_eql_su V x2 s HYok hs).trans (by rw [decide_eq_false hne])
      have r := fun V : World => (run_eql_su V x2 x2 HYok HYok).trans (by rw [decide_eq_true rfl])
      have Q9 := Lib.hid q
      have R9 := Lib.hid r
      have dg : decide ((s.g : Int) < (x2.g : Int)) = true := decide_eq_true (by omega)
      have dgn : decide (s.g < x2.g) = true := decide_eq_true h3
      subst h1
      clear q r hne
      go_wp2_with (first
        | (refine su_store rfl _ _ rfl u5.heap.size rfl x2 suZ rfl HA5.out HYL.out suZ_len ?_; obtain ⟨V5, hV⟩ : ∃ V, V = (u5.alloc (.cells #[.int .u32 0, .int .i64 0, .int .i64 0, .int .u8 0, .int .u8 0, .int .u8 0, .int .u8 0, .int .u8 0, .int .u8 0, .int .u8 0, .int .u8 0, .int .u8 0, .int .u8 0, .int .u8 0, .int .u8 0, .int .u8 0, .int .u8 0, .int .u8 0, .int .u8 0, .int .u8 0, .int .u8 0, .int .u8 0, .int .u8 0, .int .u8 0, .int .u8 0, .int .u8 0, .int .u8 0, .int .u8 0, .int .u8 0, .int .u8 0, .int .u8 0, .int .u8 0, .int .u8 0, .int .u8 0, .int .u8 0] 26)).setRow u5.heap.size x2.v := ⟨_, rfl⟩; rw [← hV]; obtain ⟨hrV5, hbV5, hzV5⟩ := storedZ _ hV; have hlV5 := Nat.le_of_eq hzV5; have hgV5 := Nat.le_of_eq hzV5.symm; have HRY := Lib.hid hrV5; have HR7 := Lib.hid ((hbV5.block u3.heap.size (by omega)).trans HR5.out); have HS7 := Lib.hid ((hbV5.block w.heap.size (by omega)).trans HS5.out); have cy := Su.cell0 HRY.out; have csx := Su.cell0 HS7.out; clear hV hzV5 hrV5)
        | (refine su_loadG (by rfl) _ rfl u3.heap.size rfl x2 HR7.out HYL.out ?_)
        | (refine su_loadG (by rfl) _ rfl w.heap.size rfl s HS7.out HSL.out ?_; have q9 := Q9.out)
        | (refine su_loadG (by rfl) _ rfl u5.heap.size rfl x2 HRY.out HYL.out ?_; have r9 := R9.out))
      refine (heads13 _).mono ?_
      rintro e w9 ⟨rfl, hb9⟩
      go_wp2
      go_ret
      exact ⟨rfl, below_then B4 (below_then hb5 (below_then hbV5 hb9))⟩
  · rw [show s.g % 2 = 0 by omega]
    obtain ⟨oE, oX⟩ := O0.out (by omega)
    rw [HE1.out] at oE
    rw [HX1.out] at oX
    subst oE
    have OXH := Lib.hid oX
    clear hp oX
    obtain ⟨x2, rfl⟩ : ∃ x, x = x1 := ⟨_, rfl⟩
    obtain ⟨V4, rfl⟩ : ∃ x, x = V3 := ⟨_, rfl⟩
    have HRV4 := HRV3
    have HSV4 := HSV3
    have hx2ok := hx1ok
    have HX2L := HX1L
    have B4 := B3
    go_wp2_with fail
    have hh := suGet_any A n c xs V4 (hr.below B4)
    rw [HE.out, HY.out] at hh
    refine hh.mono ?_
    clear hh
    rintro e u5 ⟨rfl, hb5⟩
    have z5 := hb5.size
    have HA5 := Lib.hid (allocZ u5)
    have zz3 := hbV3.size
    have HR5 := Lib.hid ((hb5.block u3.heap.size (by omega)).trans HRV4.out)
    have HS5 := Lib.hid ((hb5.block w.heap.size (by omega)).trans HSV4.out)
    rcases OXH.out with hsx | ⟨h1, h2, h3⟩
    · obtain rfl : x2 = s := hsx
      have q := fun V : World => (run_eql_su V x2 x2 hs hs).trans (by rw [decide_eq_true rfl])
      have Q9 := Lib.hid q
      clear q
      go_wp2_with (first
        | (refine su_store rfl _ _ rfl u5.heap.size rfl y suZ rfl HA5.out HYL.out suZ_len ?_; obtain ⟨V5, hV⟩ : ∃ V, V = (u5.alloc (.cells #[.int .u32 0, .int .i64 0, .int .i64 0, .int .u8 0, .int .u8 0, .int .u8 0, .int .u8 0, .int .u8 0, .int .u8 0, .int .u8 0, .int .u8 0, .int .u8 0, .int .u8 0, .int .u8 0, .int .u8 0, .int .u8 0, .int .u8 0, .int .u8 0, .int .u8 0, .int .u8 0, .int .u8 0, .int .u8 0, .int .u8 0, .int .u8 0, .int .u8 0, .int .u8 0, .int .u8 0, .int .u8 0, .int .u8 0, .int .u8 0, .int .u8 0, .int .u8 0, .int .u8 0, .int .u8 0, .int .u8 0] 26)).setRow u5.heap.size y.v := ⟨_, rfl⟩; rw [← hV]; obtain ⟨hrV5, hbV5, hzV5⟩ := storedZ _ hV; have hlV5 := Nat.le_of_eq hzV5; have hgV5 := Nat.le_of_eq hzV5.symm; have HR7 := Lib.hid ((hbV5.block u3.heap.size (by omega)).trans HR5.out); have HS7 := Lib.hid ((hbV5.block w.heap.size (by omega)).trans HS5.out); clear hV hzV5 hrV5)
        | (refine su_loadG (by rfl) _ rfl u3.heap.size rfl x2 HR7.out HSL.out ?_)
        | (refine su_loadG (by rfl) _ rfl w.heap.size rfl x2 HS7.out HSL.out ?_; have q9 := Q9.out))
      refine (heads13 _).mono ?_
      rintro e w9 ⟨rfl, hb9⟩
      go_wp2
      go_ret
      exact ⟨rfl, below_then B4 (below_then hb5 (below_then hbV5 hb9))⟩
    · obtain rfl : x2 = y := h2
      have hne : ¬ x2 = s := fun h => by rw [h] at h3; exact Nat.lt_irrefl _ h3
      have q := fun V : World => (run_eql_su V x2 s HYok hs).trans (by rw [decide_eq_false hne])
      have r := fun V : World => (run_eql_su V x2 x2 HYok HYok).trans (by rw [decide_eq_true rfl])
      have Q9 := Lib.hid q
      have R9 := Lib.hid r
      have dg : decide ((s.g : Int) < (x2.g : Int)) = true := decide_eq_true (by omega)
      have dgn : decide (s.g < x2.g) = true := decide_eq_true h3
      subst h1
      clear q r hne
      go_wp2_with (first
        | (refine su_store rfl _ _ rfl u5.heap.size rfl x2 suZ rfl HA5.out HYL.out suZ_len ?_; obtain ⟨V5, hV⟩ : ∃ V, V = (u5.alloc (.cells #[.int .u32 0, .int .i64 0, .int .i64 0, .int .u8 0, .int .u8 0, .int .u8 0, .int .u8 0, .int .u8 0, .int .u8 0, .int .u8 0, .int .u8 0, .int .u8 0, .int .u8 0, .int .u8 0, .int .u8 0, .int .u8 0, .int .u8 0, .int .u8 0, .int .u8 0, .int .u8 0, .int .u8 0, .int .u8 0, .int .u8 0, .int .u8 0, .int .u8 0, .int .u8 0, .int .u8 0, .int .u8 0, .int .u8 0, .int .u8 0, .int .u8 0, .int .u8 0, .int .u8 0, .int .u8 0, .int .u8 0] 26)).setRow u5.heap.size x2.v := ⟨_, rfl⟩; rw [← hV]; obtain ⟨hrV5, hbV5, hzV5⟩ := storedZ _ hV; have hlV5 := Nat.le_of_eq hzV5; have hgV5 := Nat.le_of_eq hzV5.symm; have HRY := Lib.hid hrV5; have HR7 := Lib.hid ((hbV5.block u3.heap.size (by omega)).trans HR5.out); have HS7 := Lib.hid ((hbV5.block w.heap.size (by omega)).trans HS5.out); have cy := Su.cell0 HRY.out; have csx := Su.cell0 HS7.out; clear hV hzV5 hrV5)
        | (refine su_loadG (by rfl) _ rfl u3.heap.size rfl x2 HR7.out HYL.out ?_)
        | (refine su_loadG (by rfl) _ rfl w.heap.size rfl s HS7.out HSL.out ?_; have q9 := Q9.out)
        | (refine su_loadG (by rfl) _ rfl u5.heap.size rfl x2 HRY.out HYL.out ?_; have r9 := R9.out))
      refine (heads13 _).mono ?_
      rintro e w9 ⟨rfl, hb9⟩
      go_wp2
      go_ret
      exact ⟨rfl, below_then B4 (below_then hb5 (below_then hbV5 hb9))⟩

theorem superOld_law (g : Nat) (sl l : Int) (D : List UInt8) (A : Option Addr) (n c : Nat) (xs : List UInt8) (w : World) (hg : g < 4294967296) (hsl : -9223372036854775808 ≤ sl ∧ sl ≤ 9223372036854775807) (hl : -9223372036854775808 ≤ l ∧ l ≤ 9223372036854775807) (hD : D.length = 32) (hr : RdB w A n c xs) :
    Calls Try.prog 6 #[.agg (suV g sl l D), .slice A n c] w (RetV w (.bool true)) := by
  have hs : (⟨g, sl, l, D⟩ : Su).ok := ⟨hg, hsl, hl, hD⟩
  cases h : suCheck sl l with
  | false => exact supOld_early ⟨g, sl, l, D⟩ A n c xs w hs hr (.inl h)
  | true =>
    by_cases hn : n ≤ 300
    · by_cases h0 : g = 0
      · exact supOld_early ⟨g, sl, l, D⟩ A n c xs w hs hr (.inr (.inr (.inl ⟨h, hn, h0⟩)))
      · by_cases h1 : g = 4294967295
        · exact supOld_early ⟨g, sl, l, D⟩ A n c xs w hs hr (.inr (.inr (.inr ⟨h, hn, h1⟩)))
        · exact supOld_main ⟨g, sl, l, D⟩ A n c xs w hs hr h hn h0 h1
    · exact supOld_early ⟨g, sl, l, D⟩ A n c xs w hs hr (.inr (.inl ⟨h, by omega⟩))
end Go.Proofs.Ytmbdfanaegadjaa
