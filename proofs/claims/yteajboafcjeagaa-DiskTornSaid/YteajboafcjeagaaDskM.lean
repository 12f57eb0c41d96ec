/-
  Layer 5: disks: the law DiskSafe.
-/
import Derived.Test.YteajboafcjeagaaDskL
namespace Go.Proofs.Yteajboafcjeagaa
set_option maxRecDepth 20000
open Go.RowKit
set_option linter.unusedVariables false
set_option linter.unusedSimpArgs false
set_option maxHeartbeats 8000000

theorem dkKeep_nil : dkKeep [] = fun _ => false := by funext i; simp [dkKeep]
theorem dkFlush_ok {D : Dk} (h : dkOk D = true) : dkFlush D = dkLeft D (fun _ => true) ∧ dkOk (dkFlush D) = true ∧ dkE D = 0 ∧ (dkFlush D).k = [] := by
  have e : dkFlush D = dkLeft D (fun _ => true) := by unfold dkFlush; rw [if_pos h]
  exact ⟨e, by rw [e]; exact dkLeft_ok D _ h, by unfold dkE; rw [if_pos h], by rw [e]; rfl⟩
theorem dkCrash_still {D : Dk} (h : dkOk D = true) (hk : D.k = []) (bs : List Bool) : dkCrash D bs = D := by
  unfold dkCrash; rw [if_pos h, dkLeft_nil D _ hk]
theorem dkCrash_none {D : Dk} (h : dkOk D = true) : dkCrash D [] = ⟨D.s, []⟩ := by
  unfold dkCrash; rw [if_pos h, dkKeep_nil, dkLeft_none]
theorem dskSafe_early (S : Option Addr) (sn sc : Nat) (K : Option Addr) (kn kc : Nat) (D : Dk) (A : Option Addr) (n c : Nat) (bs : List Bool) (w : World) (hr : RdDk w S sn sc K kn kc D) (hb : RdBo w A n c bs) (h : dkFew D = false ∨ (dkFew D = true ∧ dkOk D = false) ∨ (dkFew D = true ∧ dkOk D = true ∧ 700 < n)) :
    Calls Try.prog 3 #[.agg #[.slice S sn sc, .slice K kn kc], .slice A n c] w (RetV w (.bool true)) := by
  have hn63 := hb.n63
  obtain ⟨AV, hAV⟩ : ∃ AV : Array Value, AV = #[.slice S sn sc, .slice K kn kc] := ⟨_, rfl⟩
  have v : DkVal AV w D := ⟨S, sn, sc, K, kn, kc, hAV, hr⟩
  rw [← hAV]
  obtain ⟨V, hV⟩ : ∃ V, V = w.alloc (.cells AV 25) := ⟨_, rfl⟩
  have bV : Below w.heap.size w V := by rw [hV]; exact (below_self w).alloc (Nat.le_refl _) _
  have q : Hid (DkV V w.heap.size AV D) := Lib.hid ⟨by rw [hV]; exact drw_at _ rfl, v.below bV⟩
  have q0 := q
  have HV := Lib.hid hV
  have C1 := Lib.hid (fun W (v : DkVal AV W D) => vFew v)
  have C2 := Lib.hid (fun W (v : DkVal AV W D) => vRefCheck v)
  clear hV hAV v
  rcases h with h | ⟨h1, h2⟩ | ⟨h1, h2, h3⟩
  · rw [h] at C1
    clear h
    go_enter Try.func3, Try.ntmps3
    go_wp2_with (rw [← HV.out]; refine dk_load rfl _ rfl rfl q.out ?_)
    refine (C1.out V q.out.2).mono ?_
    rintro e w1 ⟨rfl, hb1⟩
    go_wp2_with fail
    refine (heads05 _).mono ?_
    rintro e w9 ⟨rfl, hb9⟩
    go_wp2
    go_ret
    exact ⟨rfl, below_then (below_then bV hb1) hb9⟩
  · rw [h1] at C1
    rw [h2] at C2
    clear h1 h2
    go_enter Try.func3, Try.ntmps3
    go_wp2_with (rw [← HV.out]; refine dk_load rfl _ rfl rfl q.out ?_)
    refine (C1.out V q.out.2).mono ?_
    rintro e w1 ⟨rfl, hb1⟩
    have q := Lib.hid (q.out.up hb1)
    go_wp2_with (refine wpList_unguard (by rfl) (dk_load rfl _ rfl rfl q.out ?_))
    refine (C2.out w1 q.out.2).mono ?_
    rintro e w2 ⟨rfl, hb2⟩
    go_wp2_with fail
    refine (heads05 _).mono ?_
    rintro e w9 ⟨rfl, hb9⟩
    go_wp2
    go_ret
    exact ⟨rfl, below_then (below_then (below_then bV hb1) hb2) hb9⟩
  · rw [h1] at C1
    rw [h2] at C2
    have d1 : decide ((700 : Int) < (n : Int)) = true := decide_eq_true (by omega)
    clear h1 h2 h3
    go_enter Try.func3, Try.ntmps3
    go_wp2_with (rw [← HV.out]; refine dk_load rfl _ rfl rfl q.out ?_)
    refine (C1.out V q.out.2).mono ?_
    rintro e w1 ⟨rfl, hb1⟩
    have q := Lib.hid (q.out.up hb1)
    go_wp2_with (refine wpList_unguard (by rfl) (dk_load rfl _ rfl rfl q.out ?_))
    refine (C2.out w1 q.out.2).mono ?_
    rintro e w2 ⟨rfl, hb2⟩
    go_wp2_with fail
    refine (heads05 _).mono ?_
    rintro e w9 ⟨rfl, hb9⟩
    go_wp2
    go_ret
    exact ⟨rfl, below_then (below_then (below_then bV hb1) hb2) hb9⟩
theorem dskSafe_main (S : Option Addr) (sn sc : Nat) (K : Option Addr) (kn kc : Nat) (D : Dk) (A : Option Addr) (n c : Nat) (bs : List Bool) (w : World) (hr : RdDk w S sn sc K kn kc D) (hb : RdBo w A n c bs) (h1 : dkFew D = true) (h2 : dkOk D = true) (h3 : n ≤ 700) :
    Calls Try.prog 3 #[.agg #[.slice S sn sc, .slice K kn kc], .slice A n c] w (RetV w (.bool true)) := by
  have hn63 := hb.n63
  obtain ⟨AV, hAV⟩ : ∃ AV : Array Value, AV = #[.slice S sn sc, .slice K kn kc] := ⟨_, rfl⟩
  have v : DkVal AV w D := ⟨S, sn, sc, K, kn, kc, hAV, hr⟩
  have c0 : ∀ (W : World), DkV W w.heap.size AV D → W.cell? ⟨w.heap.size, 0, none⟩ = some (.slice S sn sc) := fun W q => (cell_of_row _ _ 0 _ _ _ q.1).trans (by rw [hAV]; rfl)
  have H0 := Lib.hid c0
  rw [← hAV]
  obtain ⟨V, hV⟩ : ∃ V, V = w.alloc (.cells AV 25) := ⟨_, rfl⟩
  have bV : Below w.heap.size w V := by rw [hV]; exact (below_self w).alloc (Nat.le_refl _) _
  have q : Hid (DkV V w.heap.size AV D) := Lib.hid ⟨by rw [hV]; exact drw_at _ rfl, v.below bV⟩
  have HV := Lib.hid hV
  have C1 := Lib.hid (fun W (v : DkVal AV W D) => vFew v)
  have C2 := Lib.hid (fun W (v : DkVal AV W D) => vRefCheck v)
  rw [h1] at C1
  rw [h2] at C2
  obtain ⟨f1, f2, f3, f4⟩ := dkFlush_ok h2
  obtain ⟨E, hE⟩ : ∃ E, dkFlush D = E := ⟨_, rfl⟩
  rw [hE] at f2 f4
  have C3 := Lib.hid (fun W (v : DkVal AV W D) => vFlush v)
  rw [hE, f3] at C3
  have C4 := Lib.hid (fun BV W (v : DkVal BV W E) (hb : RdBo W A n c bs) => vCrash v A n c bs hb)
  rw [dkCrash_still f2 f4 bs, show dkE E = 0 by unfold dkE; rw [if_pos f2]] at C4
  have C5 := Lib.hid (fun W (v : DkVal AV W D) => vCrash v none 0 0 [] (rdBo_nil W))
  rw [dkCrash_none h2, f3] at C5
  have C6 := Lib.hid (fun BV CV W (v : DkVal BV W E) (u : DkVal CV W E) => vSame v u)
  obtain ⟨G, hG⟩ : ∃ G : Dk, ⟨D.s, []⟩ = G := ⟨_, rfl⟩
  rw [hG] at C5
  have C7 := Lib.hid (fun BV CV W (v : DkVal BV W G) (u : DkVal CV W G) => vSame v u)
  have HG := Lib.hid hG
  have d1 : decide ((700 : Int) < (n : Int)) = false := decide_eq_false (by omega)
  clear hV hAV v c0 h1 h2 h3 f1 f2 f3 f4 hE hG
  go_enter Try.func3, Try.ntmps3
  go_wp2_with (rw [← HV.out]; refine dk_load rfl _ rfl rfl q.out ?_)
  refine (C1.out V q.out.2).mono ?_
  rintro e w1 ⟨rfl, hb1⟩
  have q := Lib.hid (q.out.up hb1)
  have B := below_then bV hb1
  go_wp2_with (refine wpList_unguard (by rfl) (dk_load rfl _ rfl rfl q.out ?_))
  refine (C2.out w1 q.out.2).mono ?_
  rintro e w2 ⟨rfl, hb2⟩
  have q := Lib.hid (q.out.up hb2)
  have B := below_then B hb2
  go_wp2_with (refine dk_load rfl _ rfl rfl q.out ?_)
  refine (C3.out w2 q.out.2).mono ?_
  rintro e w3 ⟨A3, rfl, v3, hb3⟩
  have q := Lib.hid (q.out.up hb3)
  have B := below_then B hb3
  go_wp2_with (first | (refine dk_fresh rfl _ _ rfl rfl rfl w3 rfl rfl v3 ?_; intro X3 q3 x3) | (refine dk_load rfl _ rfl rfl q3.out ?_))
  have q := Lib.hid (q.out.up x3)
  have B := below_then B x3
  refine (C4.out A3 X3 q3.out.2 (hb.below B)).mono ?_
  rintro e w4 ⟨A4, rfl, v4, hb4⟩
  have q := Lib.hid (q.out.up hb4)
  have q3 := Lib.hid (q3.out.up hb4)
  have B := below_then B hb4
  go_wp2_with (first | (refine dk_fresh rfl _ _ rfl rfl rfl w4 rfl rfl v4 ?_; intro X4 q4 x4; have q := Lib.hid (q.out.up x4)) | (refine dk_load rfl _ rfl rfl q.out ?_))
  have q3 := Lib.hid (q3.out.up x4)
  have B := below_then B x4
  refine (C5.out X4 q.out.2).mono ?_
  rintro e w5 ⟨A5, rfl, v5, hb5⟩
  have q := Lib.hid (q.out.up hb5)
  have q3 := Lib.hid (q3.out.up hb5)
  have q4 := Lib.hid (q4.out.up hb5)
  have B := below_then B hb5
  go_wp2_with (first | (refine dk_fresh rfl _ _ rfl rfl rfl w5 rfl rfl v5 ?_; intro X5 q5 x5; have q3 := Lib.hid (q3.out.up x5); have q4 := Lib.hid (q4.out.up x5)) | (refine wpList_unguard (by rfl) (dk_load rfl _ rfl rfl q4.out ?_)) | (refine wpList_unguard (by rfl) (dk_load rfl _ rfl rfl q3.out ?_)))
  have q := Lib.hid (q.out.up x5)
  have B := below_then B x5
  refine (C6.out A4 A3 X5 q4.out.2 q3.out.2).mono ?_
  rintro e w6 ⟨rfl, hb6⟩
  have q := Lib.hid (q.out.up hb6)
  have q5 := Lib.hid (q5.out.up hb6)
  have B := below_then B hb6
  have k0 := H0.out _ q.out
  have rS := hr.below B
  have vS : DkVal #[.slice S sn sc, .slice none 0 0] w6 G := ⟨S, sn, sc, none, 0, 0, rfl, by rw [← HG.out]; exact ⟨rS.1, (rdDk_nil w6).2⟩⟩
  have VS := Lib.hid vS
  clear rS vS
  go_wp2_with (refine wpList_unguard (by rfl) (dk_load rfl _ rfl rfl q5.out ?_))
  refine (C7.out A5 _ w6 q5.out.2 VS.out).mono ?_
  rintro e w7 ⟨rfl, hb7⟩
  go_wp2_with fail
  refine (heads05 _).mono ?_
  rintro e w9 ⟨rfl, hb9⟩
  go_wp2_with fail
  go_ret
  exact ⟨rfl, below_then (below_then B hb7) hb9⟩
theorem dskSafe_law (S : Option Addr) (sn sc : Nat) (K : Option Addr) (kn kc : Nat) (D : Dk) (A : Option Addr) (n c : Nat) (bs : List Bool) (w : World) (hr : RdDk w S sn sc K kn kc D) (hb : RdBo w A n c bs) :
    Calls Try.prog 3 #[.agg #[.slice S sn sc, .slice K kn kc], .slice A n c] w (RetV w (.bool true)) := by
  cases h1 : dkFew D with
  | false => exact dskSafe_early S sn sc K kn kc D A n c bs w hr hb (.inl h1)
  | true =>
    cases h2 : dkOk D with
    | false => exact dskSafe_early S sn sc K kn kc D A n c bs w hr hb (.inr (.inl ⟨h1, h2⟩))
    | true =>
      by_cases h3 : n ≤ 700
      · exact dskSafe_main S sn sc K kn kc D A n c bs w hr hb h1 h2 h3
      · exact dskSafe_early S sn sc K kn kc D A n c bs w hr hb (.inr (.inr ⟨h1, h2, by omega⟩))
end Go.Proofs.Yteajboafcjeagaa
