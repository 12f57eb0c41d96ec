/-
  The law EthBack.
-/
import Derived.Test.YtieilgphcfiapaaEthE
import Derived.Test.YtieilgphcfiapaaNumQ
-- facts: FrAt, MacAt
namespace Go.Proofs.Ytieilgphcfiapaa
set_option maxRecDepth 20000
open Go.RowKit
set_option linter.unusedVariables false
set_option linter.unusedSimpArgs false

theorem two_bev (k : Nat) (hk : k < 65536) : bev [UInt8.ofNat (k / 256), UInt8.ofNat k] = k := by
  simp [bev]; omega
/-- What is put is got. -/
theorem get_put (d s : Mc) (k : Nat) (xs : List UInt8) (hk : k < 65536) (hx : xs.length ≤ 166) : ethGet (ethPutL d s k xs) = ⟨d, s, k, xs⟩ ∧ ethGetE (ethPutL d s k xs) = 0 ∧ ethPutE xs = 0 ∧ (ethPutL d s k xs).length = 14 + xs.length := by
  have e : ethPutL d s k xs = d.l ++ (s.l ++ ([UInt8.ofNat (k / 256), UInt8.ofNat k] ++ xs)) := by unfold ethPutL; rw [if_neg (by omega), beB_two]
  have hl : (ethPutL d s k xs).length = 14 + xs.length := by rw [e]; simp [Mc.l]; omega
  have hE : ethPutE xs = 0 := by unfold ethPutE; rw [if_neg (by omega)]
  refine ⟨?_, ?_, hE, hl⟩
  · unfold ethGet
    rw [hl, if_pos (by omega), e]
    have hb : bev (((d.l ++ (s.l ++ ([UInt8.ofNat (k / 256), UInt8.ofNat k] ++ xs))).drop 12).take 2) = k := two_bev k hk
    rw [hb]
    rfl
  · unfold ethGetE
    rw [hl, if_neg (by omega), if_neg (by omega)]
/-- What is got is put as those bytes. -/
theorem bev_two (a b : UInt8) : bev [a, b] < 65536 ∧ [UInt8.ofNat (bev [a, b] / 256), UInt8.ofNat (bev [a, b])] = [a, b] := by
  have ha := a.toNat_lt
  have hb := b.toNat_lt
  have e : bev [a, b] = a.toNat * 256 + b.toNat := by simp [bev]
  rw [e]
  refine ⟨by omega, ?_⟩
  have e1 : (a.toNat * 256 + b.toNat) / 256 = a.toNat := by omega
  congr 1
  · rw [e1]; exact UInt8.ofNat_toNat
  · congr 1
    apply UInt8.toNat_inj.1
    rw [UInt8.toNat_ofNat']; omega
theorem put_get (ys : List UInt8) (h1 : 14 ≤ ys.length) (h2 : ys.length ≤ 180) : ethPutL (ethGet ys).d (ethGet ys).s (ethGet ys).k (ethGet ys).b = ys ∧ ethPutE (ethGet ys).b = 0 ∧ (ethGet ys).k < 65536 ∧ ethGetE ys = 0 := by
  match ys, h1 with
  | y0 :: y1 :: y2 :: y3 :: y4 :: y5 :: y6 :: y7 :: y8 :: y9 :: y10 :: y11 :: y12 :: y13 :: zs, _ =>
    have hz : zs.length ≤ 166 := by simp at h2; omega
    have e : ethGet (y0 :: y1 :: y2 :: y3 :: y4 :: y5 :: y6 :: y7 :: y8 :: y9 :: y10 :: y11 :: y12 :: y13 :: zs) = ⟨⟨y0, y1, y2, y3, y4, y5⟩, ⟨y6, y7, y8, y9, y10, y11⟩, bev [y12, y13], zs⟩ := by
      unfold ethGet
      rw [if_pos (by simp at h2 ⊢; omega)]
      rfl
    rw [e]
    obtain ⟨b1, b2⟩ := bev_two y12 y13
    refine ⟨?_, ?_, b1, ?_⟩
    · unfold ethPutL
      rw [if_neg (show ¬ 166 < zs.length by omega), beB_two, b2]
      rfl
    · unfold ethPutE
      rw [if_neg (show ¬ 166 < zs.length by omega)]
    · unfold ethGetE
      rw [if_neg (by simp), if_neg (by omega)]
theorem get_short (ys : List UInt8) (h : ys.length < 14) : ethGet ys = frZero ∧ ethGetE ys = 5 := by
  unfold ethGet ethGetE
  rw [if_neg (by omega), if_pos h]; exact ⟨rfl, rfl⟩

theorem ethBack_early (d s : Mc) (k : Nat) (A : Option Addr) (n c : Nat) (xs : List UInt8) (B : Option Addr) (m e' : Nat) (ys : List UInt8) (w : World) (hr : RdB w A n c xs) (hs : RdB w B m e' ys) (h : 166 < n ∨ 180 < m) :
    Calls Try.prog 5 #[.agg #[.int .u8 (d.a0.toNat : Int), .int .u8 (d.a1.toNat : Int), .int .u8 (d.a2.toNat : Int), .int .u8 (d.a3.toNat : Int), .int .u8 (d.a4.toNat : Int), .int .u8 (d.a5.toNat : Int), .int .u8 (s.a0.toNat : Int), .int .u8 (s.a1.toNat : Int), .int .u8 (s.a2.toNat : Int), .int .u8 (s.a3.toNat : Int), .int .u8 (s.a4.toNat : Int), .int .u8 (s.a5.toNat : Int), .int .u16 k, .slice A n c], .slice B m e'] w (RetV w (.bool true)) := by
  have hn63 := hr.n63
  have hm63 := hs.n63
  by_cases h1 : 166 < n
  · have d1 : decide ((166 : Int) < (n : Int)) = true := decide_eq_true (by omega)
    clear h
    go_enter Try.func5, Try.ntmps5
    go_wp2_with fail
    refine (heads18 _).mono ?_
    rintro e w9 ⟨rfl, hb9⟩
    go_wp2
    go_ret
    exact ⟨rfl, bstep (below_self w) hb9⟩
  · have d1 : decide ((166 : Int) < (n : Int)) = false := decide_eq_false (by omega)
    have d2 : decide ((180 : Int) < (m : Int)) = true := decide_eq_true (by omega)
    clear h
    go_enter Try.func5, Try.ntmps5
    go_wp2_with fail
    refine (heads18 _).mono ?_
    rintro e w9 ⟨rfl, hb9⟩
    go_wp2
    go_ret
    exact ⟨rfl, bstep (below_self w) hb9⟩

theorem ethBack_main (d s : Mc) (k : Nat) (A : Option Addr) (n c : Nat) (xs : List UInt8) (B : Option Addr) (m e' : Nat) (ys : List UInt8) (w : World) (hr : RdB w A n c xs) (hs : RdB w B m e' ys) (hk : k < 65536) (h1 : n ≤ 166) (h2 : m ≤ 180) (ge : Int) (hge : ethGetE ys = ge) (hge2 : (m < 14 ∧ ge = 5) ∨ (14 ≤ m ∧ ge = 0)) :
    Calls Try.prog 5 #[.agg #[.int .u8 (d.a0.toNat : Int), .int .u8 (d.a1.toNat : Int), .int .u8 (d.a2.toNat : Int), .int .u8 (d.a3.toNat : Int), .int .u8 (d.a4.toNat : Int), .int .u8 (d.a5.toNat : Int), .int .u8 (s.a0.toNat : Int), .int .u8 (s.a1.toNat : Int), .int .u8 (s.a2.toNat : Int), .int .u8 (s.a3.toNat : Int), .int .u8 (s.a4.toNat : Int), .int .u8 (s.a5.toNat : Int), .int .u16 k, .slice A n c], .slice B m e'] w (RetV w (.bool true)) := by
  have hn63 := hr.n63
  have hm63 := hs.n63
  have d1 : decide ((166 : Int) < (n : Int)) = false := decide_eq_false (by omega)
  have d2 : decide ((180 : Int) < (m : Int)) = false := decide_eq_false (by omega)
  have gp := get_put d s k xs hk (by rw [hr.2.1]; omega)
  have HGP := Lib.hid gp
  obtain ⟨y, hy⟩ : ∃ y, ethGet ys = y := ⟨_, rfl⟩
  have hyk : y.k < 65536 := by
    rw [← hy]
    rcases hge2 with ⟨h, _⟩ | ⟨h, _⟩
    · rw [(get_short ys (by rw [hs.2.1]; exact h)).1]; decide
    · exact (put_get ys (by rw [hs.2.1]; exact h) (by rw [hs.2.1]; exact h2)).2.2.1
  have HY := Lib.hid hy
  have HGE := Lib.hid hge
  have HGE2 := Lib.hid hge2
  clear gp hy hge hge2
  go_enter Try.func5, Try.ntmps5
  go_wp2_with fail
  refine named ?_
  intro W1 hW1
  have bW1 : Below w.heap.size w W1 := by rw [hW1]; repeat' (first | exact Below.refl _ _ | (refine Below.alloc ?_ ?_ _; rotate_left; (simp <;> omega)) | refine Below.drew ?_)
  have zW1 := bW1.size
  have f1 : FrAt W1 w.heap.size d s k A n c := by rw [hW1]; simp [FrAt, MacAt, go_sem]
  have HW1 := Lib.hid hW1
  clear hW1
  have x1 : w.heap.size < W1.heap.size := by rw [HW1.out]; simp
  refine (ethPut_any d s k _ _ _ xs W1 hk (hr.below bW1)).mono ?_
  rintro e w2 ⟨A2, n2, c2, rfl, ho2, hb2⟩
  rw [HGP.out.2.2.1]
  have f2 := f1.below hb2 x1
  go_wp2_with fail
  have hg2 := ethGet_any A2 n2 c2 _ w2 ho2.rd
  rw [HGP.out.1, HGP.out.2.1] at hg2
  refine hg2.mono ?_
  rintro e w3 ⟨A3, n3, c3, rfl, hr3, hb3⟩
  clear hg2
  go_wp2_with fail
  refine named ?_
  intro W4 hW4
  have bW4 : Below w3.heap.size w3 W4 := by rw [hW4]; repeat' (first | exact Below.refl _ _ | (refine Below.alloc ?_ ?_ _; rotate_left; (simp <;> omega)) | refine Below.drew ?_)
  have zW4 := bW4.size
  have g4 : FrAt W4 w3.heap.size d s k A3 n3 c3 := by rw [hW4]; simp [FrAt, MacAt, go_sem]
  have HW4 := Lib.hid hW4
  clear hW4
  have x4 : w3.heap.size < W4.heap.size := by rw [HW4.out]; simp
  have B24 := below_then hb3 bW4
  have hg4 := ethGet_any B m e' ys W4 (hs.below (below_then bW1 (below_then hb2 B24)))
  rw [HY.out, HGE.out] at hg4
  refine hg4.mono ?_
  rintro e w5 ⟨A5, n5, c5, rfl, hr5, hb5⟩
  clear hg4
  go_wp2_with fail
  refine named ?_
  intro W6 hW6
  have bW6 : Below w5.heap.size w5 W6 := by rw [hW6]; repeat' (first | exact Below.refl _ _ | (refine Below.alloc ?_ ?_ _; rotate_left; (simp <;> omega)) | refine Below.drew ?_)
  have zW6 := bW6.size
  have y6 : FrAt W6 w5.heap.size y.d y.s y.k A5 n5 c5 := by rw [hW6]; simp [FrAt, MacAt, go_sem]
  have HW6 := Lib.hid hW6
  clear hW6
  have x6 : w5.heap.size < W6.heap.size := by rw [HW6.out]; simp
  refine (ethPut_any y.d y.s y.k _ _ _ y.b W6 hyk (hr5.below bW6)).mono ?_
  rintro e w7 ⟨A7, n7, c7, rfl, ho7, hb7⟩
  have B47 := below_then (below_then hb5 bW6) hb7
  have B27 := below_then B24 B47
  have z3 := hb3.size
  have z2 := hb2.size
  have f7 := f2.below B27 (by omega)
  have g7 := g4.below B47 x4
  have r7 := (hr.below bW1).below (below_then hb2 B27)
  have s7 := hs.below (below_then bW1 (below_then hb2 B27))
  have t7 := hr3.below (below_then bW4 B47)
  obtain ⟨⟨d80, d81, d82, d83, d84, d85⟩, ⟨s80, s81, s82, s83, s84, s85⟩, k8, v8⟩ := f7
  obtain ⟨⟨gd0, gd1, gd2, gd3, gd4, gd5⟩, ⟨gs0, gs1, gs2, gs3, gs4, gs5⟩, gk, gv⟩ := g7
  clear f1 f2 g4 y6
  rcases HGE2.out with ⟨hm, hge⟩ | ⟨hm, hge⟩
  · subst hge
    have l1 : decide ((14 : Int) ≤ (m : Int)) = false := decide_eq_false (by omega)
    go_wp2_with fail
    refine (same18_any d s k _ _ _ xs d s k _ _ _ xs w7 r7 t7).mono ?_
    rintro e w8 ⟨rfl, hb8⟩
    rw [show frSame d s k xs d s k xs = true from by simp [frSame, mcEq_self]]
    clear d80 d81 d82 d83 d84 d85 s80 s81 s82 s83 s84 s85 gd0 gd1 gd2 gd3 gd4 gd5 gs0 gs1 gs2 gs3 gs4 gs5 k8 v8 gk gv
    go_wp2_with fail
    refine (heads18 _).mono ?_
    rintro e w9 ⟨rfl, hb9⟩
    go_wp2
    go_ret
    exact ⟨rfl, below_then (below_then (below_then bW1 (below_then hb2 B27)) hb8) hb9⟩
  · subst hge
    have l1 : decide ((14 : Int) ≤ (m : Int)) = true := decide_eq_true (by omega)
    have pg := put_get ys (by rw [hs.2.1]; exact hm) (by rw [hs.2.1]; exact h2)
    rw [HY.out] at pg
    rw [pg.1] at ho7
    rw [pg.2.1]
    clear pg
    go_wp2_with fail
    refine (same18_any d s k _ _ _ xs d s k _ _ _ xs w7 r7 t7).mono ?_
    rintro e w8 ⟨rfl, hb8⟩
    rw [show frSame d s k xs d s k xs = true from by simp [frSame, mcEq_self]]
    clear d80 d81 d82 d83 d84 d85 s80 s81 s82 s83 s84 s85 gd0 gd1 gd2 gd3 gd4 gd5 gs0 gs1 gs2 gs3 gs4 gs5 k8 v8 gk gv
    go_wp2_with fail
    refine (bytes_any _ _ _ _ _ _ ys ys _ (ho7.rd.below hb8) (s7.below hb8)).mono ?_
    rintro e w9 ⟨rfl, rfl⟩
    rw [decide_eq_true rfl]
    go_wp2_with fail
    refine (heads18 _).mono ?_
    rintro e w9 ⟨rfl, hb9⟩
    go_wp2
    go_ret
    exact ⟨rfl, below_then (below_then (below_then bW1 (below_then hb2 B27)) hb8) hb9⟩

theorem ethBack_law (d s : Mc) (k : Nat) (A : Option Addr) (n c : Nat) (xs : List UInt8) (B : Option Addr) (m e' : Nat) (ys : List UInt8) (w : World) (hk : k < 65536) (hr : RdB w A n c xs) (hs : RdB w B m e' ys) :
    Calls Try.prog 5 #[.agg #[.int .u8 (d.a0.toNat : Int), .int .u8 (d.a1.toNat : Int), .int .u8 (d.a2.toNat : Int), .int .u8 (d.a3.toNat : Int), .int .u8 (d.a4.toNat : Int), .int .u8 (d.a5.toNat : Int), .int .u8 (s.a0.toNat : Int), .int .u8 (s.a1.toNat : Int), .int .u8 (s.a2.toNat : Int), .int .u8 (s.a3.toNat : Int), .int .u8 (s.a4.toNat : Int), .int .u8 (s.a5.toNat : Int), .int .u16 k, .slice A n c], .slice B m e'] w (RetV w (.bool true)) := by
  by_cases h : 166 < n ∨ 180 < m
  · exact ethBack_early d s k A n c xs B m e' ys w hr hs h
  · refine ethBack_main d s k A n c xs B m e' ys w hr hs hk (by omega) (by omega) _ rfl ?_
    by_cases hm : m < 14
    · exact .inl ⟨hm, (get_short ys (by rw [hs.2.1]; exact hm)).2⟩
    · exact .inr ⟨by omega, (put_get ys (by rw [hs.2.1]; omega) (by rw [hs.2.1]; omega)).2.2.2⟩
end Go.Proofs.Ytieilgphcfiapaa
