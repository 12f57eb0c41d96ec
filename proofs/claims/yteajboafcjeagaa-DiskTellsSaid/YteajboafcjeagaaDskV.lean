/-
  Layer 5: disks: Flush, Crash, Tamper, the document's too: a disk handed back is what it is, whatever the older blocks hold.
-/
import Derived.Test.YteajboafcjeagaaDskU
namespace Go.Proofs.Yteajboafcjeagaa
set_option maxRecDepth 20000
open Go.RowKit
set_option linter.unusedVariables false
set_option linter.unusedSimpArgs false
set_option maxHeartbeats 8000000

def RetDkI (w0 w : World) (D : Dk) (er : Int) (e : Ending) (w' : World) : Prop :=
  ∃ S sn sc K kn kc, e = .returned (.tuple #[.agg #[.slice S sn sc, .slice K kn kc], .int .i64 er]) ∧ Below w.heap.size w w' ∧ ∀ W, Below w0.heap.size w0 W → (∀ j, w.heap.size ≤ j → j < w'.heap.size → W.heap[j]? = w'.heap[j]?) → RdDk W S sn sc K kn kc D
theorem SecsI.agr {w0 w W : World} {g n i : Nat} {f : Nat → List UInt8} (h : SecsI w0 g n f i w) (ha : ∀ j, w0.heap.size ≤ j → j < w.heap.size → W.heap[j]? = w.heap[j]?) : SecsI w0 g n f i W := by
  obtain ⟨vs, h1, h2⟩ := h
  refine ⟨vs, own_agr h1 ha, fun j hj => ?_⟩
  obtain ⟨A, m, c, h3, h4⟩ := h2 j hj
  exact ⟨A, m, c, h3, own_agr h4 ha⟩
theorem KpR.agr {w V W : World} {D : Dk} {kp : Nat → Bool} {A : Option Addr} {n c k : Nat} {wr : World} (h : KpR w V D kp A n c k wr) (ha : ∀ j, V.heap.size ≤ j → j < wr.heap.size → W.heap[j]? = wr.heap[j]?) : KpR w V D kp A n c k W := by
  obtain ⟨vs, a, b⟩ := h
  exact ⟨vs, own_agr a ha, b⟩
theorem dskFlushI_any (S : Option Addr) (sn sc : Nat) (K : Option Addr) (kn kc : Nat) (D : Dk) (w0 w : World) (hr0 : RdDk w0 S sn sc K kn kc D) (hw0 : Below w0.heap.size w0 w) :
    Calls Try.prog 12 #[.agg #[.slice S sn sc, .slice K kn kc]] w (RetDkI w0 w (dkFlush D) (dkE D)) := by
  have hr := hr0.below hw0
  obtain ⟨V, hV⟩ : ∃ V, V = (w.alloc (.cells #[.slice S sn sc, .slice K kn kc] 25)).alloc (.cells #[.slice none 0 0, .slice none 0 0] 25) := ⟨_, rfl⟩
  have bV : Below w.heap.size w V := by rw [hV]; exact ((below_self w).alloc (Nat.le_refl _) _).alloc (by simp) _
  have qV : Hid (DkAt V w.heap.size S sn sc K kn kc) := by rw [hV]; exact Lib.hid (drw_old _ (drw_at _ rfl))
  have rV : Hid (DkAt V (w.heap.size + 1) none 0 0 none 0 0) := by rw [hV]; exact Lib.hid (drw_at _ (by simp))
  have HV := Lib.hid hV
  have H1 := Lib.hid (dskCheck_any S sn sc K kn kc D V (hr.below bV))
  clear hV
  unfold dkFlush dkE
  cases hok : dkOk D with
  | false =>
    rw [hok] at H1
    rw [if_neg (by simp), if_neg (by simp)]
    clear hok
    go_enter Try.func12, Try.ntmps12
    go_wp2_with fail
    rw [← HV.out]
    refine H1.out.mono ?_
    rintro e w2 ⟨rfl, hb2⟩
    have q2 := qV.out.up hb2
    have r2 := rV.out.up hb2
    have x0 := q2.c0
    have x1 := q2.c1
    have y0 := r2.c0
    have y1 := r2.c1
    have f0 := r2.fr 0
    have f1 := r2.fr 1
    have QS := Lib.hid (r2.s01 S sn sc K kn kc)
    have B2 := below_then bV hb2
    clear q2 r2
    go_wp2_with fail
    refine bodyPost_ret (dresults_cell_tmp Try.results12 _ _ (w.heap.size + 1) 25 _ (0, 0) _ rfl QS.out Try.underlying25 rfl (dkInfo ..)) rfl ?_
    exact ⟨S, sn, sc, K, kn, kc, rfl, below2 B2 (by omega) _ _, fun W hbW _ => hr0.below hbW⟩
  | true =>
    rw [hok] at H1
    rw [if_pos rfl, if_pos rfl]
    have H2 := Lib.hid (fun W (hb : Below V.heap.size V W) => dskLeft_any 33 #[] S sn sc K kn kc D W (fun _ => true) (hr.below (below_then bV hb)) hok (fun args W => by go_simp) (fun W i _ _ => dskFlush1_any i W))
    have HOK := Lib.hid hok
    clear hok
    go_enter Try.func12, Try.ntmps12
    go_wp2_with fail
    rw [← HV.out]
    refine H1.out.mono ?_
    rintro e w2 ⟨rfl, hb2⟩
    have q2 := qV.out.up hb2
    have x0 := q2.c0
    have x1 := q2.c1
    have B2 := below_then bV hb2
    clear q2
    go_wp2_with fail
    refine (H2.out w2 hb2).mono ?_
    rintro e w3 ⟨g3, rfl, hr3, hb3⟩
    have r3 := (rV.out.up hb2).up hb3
    have y0 := r3.c0
    have y1 := r3.c1
    have f0 := r3.fr 0
    have f1 := r3.fr 1
    have QS := Lib.hid (r3.s01 (some ⟨g3, 0, none⟩) sn sn none 0 0)
    have B3 := below_then B2 hb3
    have HR := Lib.hid hr3
    have R3 := Lib.hid r3
    clear r3 hr3 x0 x1
    go_wp2_with fail
    refine bodyPost_ret (dresults_cell_tmp Try.results12 _ _ (w.heap.size + 1) 25 _ (0, 0) _ rfl QS.out Try.underlying25 rfl (dkInfo ..)) rfl ?_
    exact ⟨_, sn, sn, none, 0, 0, rfl, below2 B3 (by omega) _ _, fun W hbW hag => SecsI.disk (SecsI.agr ((HR.out.far R3.out (by decide) (by decide) 0 _).far (R3.out.s0 (some ⟨g3, 0, none⟩) sn sn) (by decide) (by decide) 1 _) (fun j hj hj2 => hag j (by have := B2.size; omega) hj2)) hr.sl (by have := ((dkOk_iff D).1 HOK.out).1; have := hr.sl; omega)⟩
theorem dskCrashI_any (S : Option Addr) (sn sc : Nat) (K : Option Addr) (kn kc : Nat) (D : Dk) (A : Option Addr) (n c : Nat) (bs : List Bool) (w0 w : World) (hr0 : RdDk w0 S sn sc K kn kc D) (hw0 : Below w0.heap.size w0 w) (hb : RdBo w A n c bs) :
    Calls Try.prog 13 #[.agg #[.slice S sn sc, .slice K kn kc], .slice A n c] w (RetDkI w0 w (dkCrash D bs) (dkE D)) := by
  have hr := hr0.below hw0
  obtain ⟨V, hV⟩ : ∃ V, V = ((w.alloc (.cells #[.slice S sn sc, .slice K kn kc] 25)).alloc (.cells #[.slice A n c] 26)).alloc (.cells #[.slice none 0 0, .slice none 0 0] 25) := ⟨_, rfl⟩
  have bV : Below w.heap.size w V := by rw [hV]; exact (((below_self w).alloc (Nat.le_refl _) _).alloc (by simp) _).alloc (by simp; omega) _
  have qV : Hid (DkAt V w.heap.size S sn sc K kn kc) := by rw [hV]; exact Lib.hid (drw_old _ (drw_old _ (drw_at _ rfl)))
  have kV : Hid (V.heap[w.heap.size + 1]? = some (.cells #[.slice A n c] 26 (0, 0))) := by rw [hV]; exact Lib.hid (drw_old _ (drw_at _ (by simp)))
  have rV : Hid (DkAt V (w.heap.size + 1 + 1) none 0 0 none 0 0) := by rw [hV]; exact Lib.hid (drw_at _ (by simp))
  have HV := Lib.hid hV
  have H1 := Lib.hid (dskCheck_any S sn sc K kn kc D V (hr.below bV))
  clear hV
  unfold dkCrash dkE
  cases hok : dkOk D with
  | false =>
    rw [hok] at H1
    rw [if_neg (by simp), if_neg (by simp)]
    clear hok
    go_enter Try.func13, Try.ntmps13
    go_wp2_with fail
    rw [← HV.out]
    refine H1.out.mono ?_
    rintro e w2 ⟨rfl, hb2⟩
    have q2 := qV.out.up hb2
    have r2 := rV.out.up hb2
    have x0 := q2.c0
    have x1 := q2.c1
    have y0 := r2.c0
    have y1 := r2.c1
    have f0 := r2.fr 0
    have f1 := r2.fr 1
    have QS := Lib.hid (r2.s01 S sn sc K kn kc)
    have B2 := below_then bV hb2
    clear q2 r2
    go_wp2_with fail
    refine bodyPost_ret (dresults_cell_tmp Try.results13 _ _ (w.heap.size + 1 + 1) 25 _ (0, 0) _ rfl QS.out Try.underlying25 rfl (dkInfo ..)) rfl ?_
    exact ⟨S, sn, sc, K, kn, kc, rfl, below2 B2 (by omega) _ _, fun W hbW _ => hr0.below hbW⟩
  | true =>
    rw [hok] at H1
    rw [if_pos rfl, if_pos rfl]
    have hk9 := ((dkOk_iff D).1 hok).2.1
    have hkl := hr.kl
    have H2 := Lib.hid (fun W (hbW : Below V.heap.size V W) => dskLeft_any 34 #[.pointer (some ⟨w.heap.size + 1, 0, none⟩)] S sn sc K kn kc D W (dkKeep bs) (hr.below (below_then bV hbW)) hok (fun args W => by go_simp) (fun W2 i hb2 hi => dskCrash1_any i (w.heap.size + 1) A n c bs W2 (drw_up (drw_up kV.out hbW) hb2) (hb.below (below_then (below_then bV hbW) hb2)) (by omega)))
    have HOK := Lib.hid hok
    clear hok hk9 hkl
    go_enter Try.func13, Try.ntmps13
    go_wp2_with fail
    rw [← HV.out]
    refine H1.out.mono ?_
    rintro e w2 ⟨rfl, hb2⟩
    have q2 := qV.out.up hb2
    have x0 := q2.c0
    have x1 := q2.c1
    have B2 := below_then bV hb2
    clear q2
    go_wp2_with fail
    refine (H2.out w2 hb2).mono ?_
    rintro e w3 ⟨g3, rfl, hr3, hb3⟩
    have r3 := (rV.out.up hb2).up hb3
    have y0 := r3.c0
    have y1 := r3.c1
    have f0 := r3.fr 0
    have f1 := r3.fr 1
    have QS := Lib.hid (r3.s01 (some ⟨g3, 0, none⟩) sn sn none 0 0)
    have B3 := below_then B2 hb3
    have HR := Lib.hid hr3
    have R3 := Lib.hid r3
    clear r3 hr3 x0 x1
    go_wp2_with fail
    refine bodyPost_ret (dresults_cell_tmp Try.results13 _ _ (w.heap.size + 1 + 1) 25 _ (0, 0) _ rfl QS.out Try.underlying25 rfl (dkInfo ..)) rfl ?_
    exact ⟨_, sn, sn, none, 0, 0, rfl, below2 B3 (by omega) _ _, fun W hbW hag => SecsI.disk (SecsI.agr ((HR.out.far R3.out (by decide) (by decide) 0 _).far (R3.out.s0 (some ⟨g3, 0, none⟩) sn sn) (by decide) (by decide) 1 _) (fun j hj hj2 => hag j (by have := B2.size; omega) hj2)) hr.sl (by have := ((dkOk_iff D).1 HOK.out).1; have := hr.sl; omega)⟩
theorem ref_FlushI_any (S : Option Addr) (sn sc : Nat) (K : Option Addr) (kn kc : Nat) (D : Dk) (w0 w : World) (hr0 : RdDk w0 S sn sc K kn kc D) (hw0 : Below w0.heap.size w0 w) :
    Calls Try.prog 20 #[.agg #[.slice S sn sc, .slice K kn kc]] w (RetDkI w0 w (dkFlush D) (dkE D)) := by
  have hr := hr0.below hw0
  obtain ⟨V, hV⟩ : ∃ V, V = (w.alloc (.cells #[.slice S sn sc, .slice K kn kc] 25)).alloc (.cells #[.slice none 0 0, .slice none 0 0] 25) := ⟨_, rfl⟩
  have bV : Below w.heap.size w V := by rw [hV]; exact ((below_self w).alloc (Nat.le_refl _) _).alloc (by simp) _
  have qV : Hid (DkAt V w.heap.size S sn sc K kn kc) := by rw [hV]; exact Lib.hid (drw_old _ (drw_at _ rfl))
  have rV : Hid (DkAt V (w.heap.size + 1) none 0 0 none 0 0) := by rw [hV]; exact Lib.hid (drw_at _ (by simp))
  have HV := Lib.hid hV
  have H1 := Lib.hid (refDskCheck_any S sn sc K kn kc D V (hr.below bV))
  clear hV
  unfold dkFlush dkE
  cases hok : dkOk D with
  | false =>
    rw [hok] at H1
    rw [if_neg (by simp), if_neg (by simp)]
    clear hok
    go_enter Try.func20, Try.ntmps20
    go_wp2_with fail
    rw [← HV.out]
    refine H1.out.mono ?_
    rintro e w2 ⟨rfl, hb2⟩
    have q2 := qV.out.up hb2
    have r2 := rV.out.up hb2
    have x0 := q2.c0
    have x1 := q2.c1
    have y0 := r2.c0
    have y1 := r2.c1
    have f0 := r2.fr 0
    have f1 := r2.fr 1
    have QS := Lib.hid (r2.s01 S sn sc K kn kc)
    have B2 := below_then bV hb2
    clear q2 r2
    go_wp2_with fail
    refine bodyPost_ret (dresults_cell_tmp Try.results20 _ _ (w.heap.size + 1) 25 _ (0, 0) _ rfl QS.out Try.underlying25 rfl (dkInfo ..)) rfl ?_
    exact ⟨S, sn, sc, K, kn, kc, rfl, below2 B2 (by omega) _ _, fun W hbW _ => hr0.below hbW⟩
  | true =>
    rw [hok] at H1
    rw [if_pos rfl, if_pos rfl]
    have H2 := Lib.hid (fun W (hb0 : Below V.heap.size V W) => refDskKept_any S sn sc K kn kc D none 0 0 [] true w0 W hr0 (below_then hw0 (below_then bV hb0)) hok (rdBo_nil W))
    have hsn : sn ≤ 256 := by have := ((dkOk_iff D).1 hok).1; have := hr.sl; omega
    have HSL := Lib.hid hr.sl
    clear hok
    go_enter Try.func20, Try.ntmps20
    go_wp2_with fail
    rw [← HV.out]
    refine H1.out.mono ?_
    rintro e w2 ⟨rfl, hb2⟩
    have q2 := qV.out.up hb2
    have x0 := q2.c0
    have x1 := q2.c1
    have B2 := below_then bV hb2
    clear q2
    go_wp2_with fail
    refine (H2.out w2 hb2).mono ?_
    rintro e w3 ⟨A3, c3, rfl, hr3, hb3⟩
    have r3 := (rV.out.up hb2).up hb3
    have y0 := r3.c0
    have y1 := r3.c1
    have f0 := r3.fr 0
    have f1 := r3.fr 1
    have QS := Lib.hid (r3.s01 A3 sn c3 none 0 0)
    have B3 := below_then B2 hb3
    have HR := Lib.hid hr3
    have R3 := Lib.hid r3
    clear r3 hr3 x0 x1
    go_wp2_with fail
    refine bodyPost_ret (dresults_cell_tmp Try.results20 _ _ (w.heap.size + 1) 25 _ (0, 0) _ rfl QS.out Try.underlying25 rfl (dkInfo ..)) rfl ?_
    exact ⟨A3, sn, c3, none, 0, 0, rfl, below2 B3 (by omega) _ _, fun W hbW hag => (KpR.agr ((HR.out.far R3.out (by decide) 0 (.slice A3 sn c3)).far (R3.out.s0 A3 sn c3) (by decide) 1 (.slice none 0 0)) (fun j hj hj2 => hag j (by have := B2.size; omega) hj2)).done hbW (by omega) HSL.out⟩
theorem ref_CrashI_any (S : Option Addr) (sn sc : Nat) (K : Option Addr) (kn kc : Nat) (D : Dk) (A : Option Addr) (n c : Nat) (bs : List Bool) (w0 w : World) (hr0 : RdDk w0 S sn sc K kn kc D) (hw0 : Below w0.heap.size w0 w) (hb : RdBo w A n c bs) :
    Calls Try.prog 21 #[.agg #[.slice S sn sc, .slice K kn kc], .slice A n c] w (RetDkI w0 w (dkCrash D bs) (dkE D)) := by
  have hr := hr0.below hw0
  obtain ⟨V, hV⟩ : ∃ V, V = (w.alloc (.cells #[.slice S sn sc, .slice K kn kc] 25)).alloc (.cells #[.slice none 0 0, .slice none 0 0] 25) := ⟨_, rfl⟩
  have bV : Below w.heap.size w V := by rw [hV]; exact ((below_self w).alloc (Nat.le_refl _) _).alloc (by simp) _
  have qV : Hid (DkAt V w.heap.size S sn sc K kn kc) := by rw [hV]; exact Lib.hid (drw_old _ (drw_at _ rfl))
  have rV : Hid (DkAt V (w.heap.size + 1) none 0 0 none 0 0) := by rw [hV]; exact Lib.hid (drw_at _ (by simp))
  have HV := Lib.hid hV
  have H1 := Lib.hid (refDskCheck_any S sn sc K kn kc D V (hr.below bV))
  clear hV
  unfold dkCrash dkE
  cases hok : dkOk D with
  | false =>
    rw [hok] at H1
    rw [if_neg (by simp), if_neg (by simp)]
    clear hok
    go_enter Try.func21, Try.ntmps21
    go_wp2_with fail
    rw [← HV.out]
    refine H1.out.mono ?_
    rintro e w2 ⟨rfl, hb2⟩
    have q2 := qV.out.up hb2
    have r2 := rV.out.up hb2
    have x0 := q2.c0
    have x1 := q2.c1
    have y0 := r2.c0
    have y1 := r2.c1
    have f0 := r2.fr 0
    have f1 := r2.fr 1
    have QS := Lib.hid (r2.s01 S sn sc K kn kc)
    have B2 := below_then bV hb2
    clear q2 r2
    go_wp2_with fail
    refine bodyPost_ret (dresults_cell_tmp Try.results21 _ _ (w.heap.size + 1) 25 _ (0, 0) _ rfl QS.out Try.underlying25 rfl (dkInfo ..)) rfl ?_
    exact ⟨S, sn, sc, K, kn, kc, rfl, below2 B2 (by omega) _ _, fun W hbW _ => hr0.below hbW⟩
  | true =>
    rw [hok] at H1
    rw [if_pos rfl, if_pos rfl]
    have H2 := Lib.hid (fun W (hb0 : Below V.heap.size V W) => refDskKept_any S sn sc K kn kc D A n c bs false w0 W hr0 (below_then hw0 (below_then bV hb0)) hok (hb.below (below_then bV hb0)))
    have hsn : sn ≤ 256 := by have := ((dkOk_iff D).1 hok).1; have := hr.sl; omega
    have HSL := Lib.hid hr.sl
    clear hok
    go_enter Try.func21, Try.ntmps21
    go_wp2_with fail
    rw [← HV.out]
    refine H1.out.mono ?_
    rintro e w2 ⟨rfl, hb2⟩
    have q2 := qV.out.up hb2
    have x0 := q2.c0
    have x1 := q2.c1
    have B2 := below_then bV hb2
    clear q2
    go_wp2_with fail
    refine (H2.out w2 hb2).mono ?_
    rintro e w3 ⟨A3, c3, rfl, hr3, hb3⟩
    have r3 := (rV.out.up hb2).up hb3
    have y0 := r3.c0
    have y1 := r3.c1
    have f0 := r3.fr 0
    have f1 := r3.fr 1
    have QS := Lib.hid (r3.s01 A3 sn c3 none 0 0)
    have B3 := below_then B2 hb3
    have HR := Lib.hid hr3
    have R3 := Lib.hid r3
    clear r3 hr3 x0 x1
    go_wp2_with fail
    refine bodyPost_ret (dresults_cell_tmp Try.results21 _ _ (w.heap.size + 1) 25 _ (0, 0) _ rfl QS.out Try.underlying25 rfl (dkInfo ..)) rfl ?_
    exact ⟨A3, sn, c3, none, 0, 0, rfl, below2 B3 (by omega) _ _, fun W hbW hag => (KpR.agr ((HR.out.far R3.out (by decide) 0 (.slice A3 sn c3)).far (R3.out.s0 A3 sn c3) (by decide) 1 (.slice none 0 0)) (fun j hj hj2 => hag j (by have := B2.size; omega) hj2)).done hbW (by omega) HSL.out⟩
theorem dskTamperI_no (S : Option Addr) (sn sc : Nat) (Kd : Option Addr) (kn kc : Nat) (D : Dk) (a p : Int) (u : UInt8) (w0 w : World) (hr0 : RdDk w0 S sn sc Kd kn kc D) (hw0 : Below w0.heap.size w0 w) (ha : -9223372036854775808 ≤ a ∧ a ≤ 9223372036854775807) (hp : -9223372036854775808 ≤ p ∧ p ≤ 9223372036854775807) (h : dkAsk D a ≠ 0) :
    Calls Try.prog 22 #[.agg #[.slice S sn sc, .slice Kd kn kc], .int .i64 a, .int .i64 p, .int .u8 (u.toNat : Int)] w (RetDkI w0 w D (dkAsk D a)) := by
  have hr := hr0.below hw0
  obtain ⟨V, hV⟩ : ∃ V, V = (w.alloc (.cells #[.slice S sn sc, .slice Kd kn kc] 25)).alloc (.cells #[.slice none 0 0, .slice none 0 0] 25) := ⟨_, rfl⟩
  have bV : Below w.heap.size w V := by rw [hV]; exact ((below_self w).alloc (Nat.le_refl _) _).alloc (by simp) _
  have qV : Hid (DkAt V w.heap.size S sn sc Kd kn kc) := by rw [hV]; exact Lib.hid (drw_old _ (drw_at _ rfl))
  have rV : Hid (DkAt V (w.heap.size + 1) none 0 0 none 0 0) := by rw [hV]; exact Lib.hid (drw_at _ (by simp))
  have HV := Lib.hid hV
  have hsl := hr.sl
  obtain ⟨E, hE⟩ : ∃ E, dkAsk D a = E := ⟨_, rfl⟩
  have H1 := Lib.hid (dskAsked_any S sn sc Kd kn kc D a V (hr.below bV) ha)
  rw [hE] at H1
  have n1 : (E != 0) = true := bne_iff_ne.2 (by rw [← hE]; exact h)
  rw [hE]
  clear hV h hE
  · skip
    go_enter Try.func22, Try.ntmps22
    go_wp2_with fail
    rw [← HV.out]
    refine H1.out.mono ?_
    rintro e w2 ⟨rfl, hb2⟩
    have q2 := qV.out.up hb2
    have r2 := rV.out.up hb2
    have x0 := q2.c0
    have x1 := q2.c1
    have y0 := r2.c0
    have y1 := r2.c1
    have f0 := r2.fr 0
    have f1 := r2.fr 1
    have QS := Lib.hid (r2.s01 S sn sc Kd kn kc)
    have B2 := below_then bV hb2
    clear q2 r2
    go_wp2_with fail
    refine bodyPost_ret (dresults_cell_tmp Try.results22 _ _ (w.heap.size + 1) 25 _ (0, 0) _ rfl QS.out Try.underlying25 rfl (dkInfo ..)) rfl ?_
    exact ⟨S, sn, sc, Kd, kn, kc, rfl, below2 B2 (by omega) _ _, fun W hbW _ => hr0.below hbW⟩
theorem dskTamperI_low (S : Option Addr) (sn sc : Nat) (Kd : Option Addr) (kn kc : Nat) (D : Dk) (a p : Int) (u : UInt8) (w0 w : World) (hr0 : RdDk w0 S sn sc Kd kn kc D) (hw0 : Below w0.heap.size w0 w) (ha : -9223372036854775808 ≤ a ∧ a ≤ 9223372036854775807) (hp : -9223372036854775808 ≤ p ∧ p ≤ 9223372036854775807) (h : dkAsk D a = 0) (hl : p < 0) :
    Calls Try.prog 22 #[.agg #[.slice S sn sc, .slice Kd kn kc], .int .i64 a, .int .i64 p, .int .u8 (u.toNat : Int)] w (RetDkI w0 w D 2) := by
  have hr := hr0.below hw0
  obtain ⟨V, hV⟩ : ∃ V, V = (w.alloc (.cells #[.slice S sn sc, .slice Kd kn kc] 25)).alloc (.cells #[.slice none 0 0, .slice none 0 0] 25) := ⟨_, rfl⟩
  have bV : Below w.heap.size w V := by rw [hV]; exact ((below_self w).alloc (Nat.le_refl _) _).alloc (by simp) _
  have qV : Hid (DkAt V w.heap.size S sn sc Kd kn kc) := by rw [hV]; exact Lib.hid (drw_old _ (drw_at _ rfl))
  have rV : Hid (DkAt V (w.heap.size + 1) none 0 0 none 0 0) := by rw [hV]; exact Lib.hid (drw_at _ (by simp))
  have HV := Lib.hid hV
  have hsl := hr.sl
  obtain ⟨E, hE⟩ : ∃ E, dkAsk D a = E := ⟨_, rfl⟩
  have H1 := Lib.hid (dskAsked_any S sn sc Kd kn kc D a V (hr.below bV) ha)
  rw [hE] at H1
  obtain rfl : E = 0 := by rw [← hE, h]
  have d1 : decide (p < 0) = true := decide_eq_true hl
  clear hV h hE
  · skip
    go_enter Try.func22, Try.ntmps22
    go_wp2_with fail
    rw [← HV.out]
    refine H1.out.mono ?_
    rintro e w2 ⟨rfl, hb2⟩
    have q2 := qV.out.up hb2
    have r2 := rV.out.up hb2
    have x0 := q2.c0
    have x1 := q2.c1
    have y0 := r2.c0
    have y1 := r2.c1
    have f0 := r2.fr 0
    have f1 := r2.fr 1
    have QS := Lib.hid (r2.s01 S sn sc Kd kn kc)
    have B2 := below_then bV hb2
    clear q2 r2
    go_wp2_with fail
    refine bodyPost_ret (dresults_cell_tmp Try.results22 _ _ (w.heap.size + 1) 25 _ (0, 0) _ rfl QS.out Try.underlying25 rfl (dkInfo ..)) rfl ?_
    exact ⟨S, sn, sc, Kd, kn, kc, rfl, below2 B2 (by omega) _ _, fun W hbW _ => hr0.below hbW⟩
theorem dskTamperI_high (S : Option Addr) (sn sc : Nat) (Kd : Option Addr) (kn kc : Nat) (D : Dk) (a p : Int) (u : UInt8) (w0 w : World) (hr0 : RdDk w0 S sn sc Kd kn kc D) (hw0 : Below w0.heap.size w0 w) (ha : -9223372036854775808 ≤ a ∧ a ≤ 9223372036854775807) (hp : -9223372036854775808 ≤ p ∧ p ≤ 9223372036854775807) (h : dkAsk D a = 0) (hl : 256 ≤ p) :
    Calls Try.prog 22 #[.agg #[.slice S sn sc, .slice Kd kn kc], .int .i64 a, .int .i64 p, .int .u8 (u.toNat : Int)] w (RetDkI w0 w D 2) := by
  have hr := hr0.below hw0
  obtain ⟨V, hV⟩ : ∃ V, V = (w.alloc (.cells #[.slice S sn sc, .slice Kd kn kc] 25)).alloc (.cells #[.slice none 0 0, .slice none 0 0] 25) := ⟨_, rfl⟩
  have bV : Below w.heap.size w V := by rw [hV]; exact ((below_self w).alloc (Nat.le_refl _) _).alloc (by simp) _
  have qV : Hid (DkAt V w.heap.size S sn sc Kd kn kc) := by rw [hV]; exact Lib.hid (drw_old _ (drw_at _ rfl))
  have rV : Hid (DkAt V (w.heap.size + 1) none 0 0 none 0 0) := by rw [hV]; exact Lib.hid (drw_at _ (by simp))
  have HV := Lib.hid hV
  have hsl := hr.sl
  obtain ⟨E, hE⟩ : ∃ E, dkAsk D a = E := ⟨_, rfl⟩
  have H1 := Lib.hid (dskAsked_any S sn sc Kd kn kc D a V (hr.below bV) ha)
  rw [hE] at H1
  obtain rfl : E = 0 := by rw [← hE, h]
  have d1 : decide (p < 0) = false := decide_eq_false (by omega)
  have d2 : decide (256 ≤ p) = true := decide_eq_true hl
  clear hV h hE
  · skip
    go_enter Try.func22, Try.ntmps22
    go_wp2_with fail
    rw [← HV.out]
    refine H1.out.mono ?_
    rintro e w2 ⟨rfl, hb2⟩
    have q2 := qV.out.up hb2
    have r2 := rV.out.up hb2
    have x0 := q2.c0
    have x1 := q2.c1
    have y0 := r2.c0
    have y1 := r2.c1
    have f0 := r2.fr 0
    have f1 := r2.fr 1
    have QS := Lib.hid (r2.s01 S sn sc Kd kn kc)
    have B2 := below_then bV hb2
    clear q2 r2
    go_wp2_with fail
    refine bodyPost_ret (dresults_cell_tmp Try.results22 _ _ (w.heap.size + 1) 25 _ (0, 0) _ rfl QS.out Try.underlying25 rfl (dkInfo ..)) rfl ?_
    exact ⟨S, sn, sc, Kd, kn, kc, rfl, below2 B2 (by omega) _ _, fun W hbW _ => hr0.below hbW⟩
theorem dskTamperI_ok (S : Option Addr) (sn sc : Nat) (Kd : Option Addr) (kn kc : Nat) (D : Dk) (a p : Int) (u : UInt8) (w0 w : World) (hr0 : RdDk w0 S sn sc Kd kn kc D) (hw0 : Below w0.heap.size w0 w) (ha : -9223372036854775808 ≤ a ∧ a ≤ 9223372036854775807) (hp : -9223372036854775808 ≤ p ∧ p ≤ 9223372036854775807) (h : dkAsk D a = 0) (hl0 : 0 ≤ p) (hl : p < 256) :
    Calls Try.prog 22 #[.agg #[.slice S sn sc, .slice Kd kn kc], .int .i64 a, .int .i64 p, .int .u8 (u.toNat : Int)] w (RetDkI w0 w ⟨D.s.set a.toNat (dkTampered (D.s.getD a.toNat []) p.toNat u), D.k⟩ 0) := by
  have hr := hr0.below hw0
  obtain ⟨V, hV⟩ : ∃ V, V = (w.alloc (.cells #[.slice S sn sc, .slice Kd kn kc] 25)).alloc (.cells #[.slice none 0 0, .slice none 0 0] 25) := ⟨_, rfl⟩
  have bV : Below w.heap.size w V := by rw [hV]; exact ((below_self w).alloc (Nat.le_refl _) _).alloc (by simp) _
  have qV : Hid (DkAt V w.heap.size S sn sc Kd kn kc) := by rw [hV]; exact Lib.hid (drw_old _ (drw_at _ rfl))
  have rV : Hid (DkAt V (w.heap.size + 1) none 0 0 none 0 0) := by rw [hV]; exact Lib.hid (drw_at _ (by simp))
  have HV := Lib.hid hV
  have hsl := hr.sl
  obtain ⟨E, hE⟩ : ∃ E, dkAsk D a = E := ⟨_, rfl⟩
  have H1 := Lib.hid (dskAsked_any S sn sc Kd kn kc D a V (hr.below bV) ha)
  rw [hE] at H1
  obtain rfl : E = 0 := by rw [← hE, h]
  have hok : dkOk D = true := by
    unfold dkAsk at h
    cases hx : dkOk D with
    | true => rfl
    | false => rw [if_pos hx] at h; cases h
  have hhas : dkHas D a = true := by
    unfold dkAsk at h
    rw [if_neg (by simp [hok])] at h
    cases hx : dkHas D a with
    | true => rfl
    | false => rw [if_pos hx] at h; cases h
  unfold dkHas at hhas
  rw [Bool.and_eq_true, decide_eq_true_eq, decide_eq_true_eq] at hhas
  obtain ⟨i, rfl⟩ : ∃ i : Nat, a = (i : Int) := ⟨a.toNat, by omega⟩
  obtain ⟨q, rfl⟩ : ∃ q : Nat, p = (q : Int) := ⟨p.toNat, by omega⟩
  rw [Int.toNat_natCast, Int.toNat_natCast]
  have hi : i < sn := by omega
  have hsn : sn ≤ 256 := by rw [← hsl]; exact ((dkOk_iff D).1 hok).1
  have hq : q < 256 := by omega
  have hl9 := dkOk_slen hok i (by omega)
  have d1 : decide ((q : Int) < 0) = false := decide_eq_false (by omega)
  have d2 : decide (256 ≤ (q : Int)) = false := decide_eq_false (by omega)
  have l1 : (i : Int) < (sn : Int) := by omega
  have l2 : (q : Int) < 256 := by omega
  obtain ⟨⟨vs, hs⟩, us, hus⟩ := id hr0
  have hvy := hs.2.2.2.2.length
  obtain ⟨B, m, d, hvi, hy⟩ := hs.2.2.2.2.at_ i (by rw [hs.2.1]; exact hi) (by rw [← hvy, hs.2.1]; exact hi)
  have hvi2 : vs[i]? = some (.slice B m d) := by rw [List.getElem?_eq_getElem (by rw [hs.2.1]; exact hi), hvi]
  obtain ⟨Y, hY⟩ : ∃ Y, D.s.getD i [] = Y := ⟨_, rfl⟩
  have hYi : D.s[i]'(by omega) = Y := by rw [← hY]; simp [List.getD, show i < D.s.length by omega]
  rw [hYi] at hy
  rw [hY] at hl9 ⊢
  have hm : m = 256 := by rw [← hy.2.1]; exact hl9
  subst hm
  have HS := Lib.hid hs
  have HUS := Lib.hid hus
  have HVI := Lib.hid hvi2
  have HYY := Lib.hid hy
  have HHL := Lib.hid hl9
  have HSL := Lib.hid hsl
  clear hV h hE hvi hvi2 hYi hY hhas hok hs hus hvy hy hl9 hl hl0 hsl
  · skip
    go_enter Try.func22, Try.ntmps22
    go_wp2_with fail
    rw [← HV.out]
    refine H1.out.mono ?_
    rintro e w2 ⟨rfl, hb2⟩
    have q2 := qV.out.up hb2
    have r2 := rV.out.up hb2
    have x0 := q2.c0
    have x1 := q2.c1
    have y0 := r2.c0
    have y1 := r2.c1
    have f0 := r2.fr 0
    have f1 := r2.fr 1
    have QS := Lib.hid (r2.s01 S sn sc Kd kn kc)
    have B2 := below_then bV hb2
    have Q2 := Lib.hid q2
    have R2 := Lib.hid r2
    clear q2 r2 y0 y1 f0 f1 QS
    go_wp2_with fail
    refine (cloneSS_any S sn sc vs D.s w2 (HS.out.below (below_then hw0 B2)) (by omega)).mono ?_
    rintro e w3 ⟨S3, c3, rfl, ho3, hb3⟩
    obtain ⟨g, cap, hv3, hbg, hlg⟩ := World.ownsRow.form ho3 (by omega)
    injection hv3 with hv3 _ hv4
    subst hv3 hv4
    have q3 := Q2.out.up hb3
    have R3 := Lib.hid (R2.out.up hb3)
    have x0 := q3.c0
    have x1 := q3.c1
    have g0 := q3.fr 0
    obtain ⟨W4, hW4⟩ : ∃ W, W = w3.setCell ⟨w.heap.size, 0, none⟩ (.slice (some ⟨g, 0, none⟩) sn c3) := ⟨_, rfl⟩
    have q4 : DkAt W4 w.heap.size (some ⟨g, 0, none⟩) sn c3 Kd kn kc := by rw [hW4]; exact q3.s0 _ _ _
    have r4 : DkAt W4 (w.heap.size + 1) none 0 0 none 0 0 := by rw [hW4]; exact (heap_setCell_other _ _ _ _ (by show w.heap.size + 1 ≠ w.heap.size; omega)).trans R3.out
    have o4 : W4.ownsRow w2.heap.size 35 1 (.slice (some ⟨g, 0, none⟩) sn c3) sn vs := by rw [hW4]; exact own_far ho3 q3 (by decide) 0 _
    have B4 : Below w.heap.size w W4 := by rw [hW4]; exact (below_then B2 hb3).setCell (p := ⟨w.heap.size, 0, none⟩) (Nat.le_refl _) _
    have HW4 := Lib.hid hW4
    have Q4 := Lib.hid q4
    have R4 := Lib.hid r4
    have O4 := Lib.hid o4
    have HBG := Lib.hid hbg
    have hz2 := B2.size
    have HZ2 := Lib.hid (show w.heap.size + 1 < w2.heap.size from R2.out.lt)
    clear hW4 q4 r4 o4 ho3 q3 R3 hlg hb3 hbg
    go_wp2_with fail
    rw [← HW4.out]
    clear x0 x1 g0
    have c0 := Q4.out.c0
    have lq := Q4.out.lt
    have ci := (World.ownsRow.cellAt O4.out i (by omega)).trans HVI.out
    have lg : g < W4.heap.size := World.block_lt_of_cell? W4 _ ci
    refine wp_region_last (S := fun w' => Below W4.heap.size W4 w') 10 #[true, true, true, true, true, true, true, true, true, true, false] [(0, true), (1, true), (2, true), (3, true), (4, true), (5, true), (6, true), (7, true), (8, false), (9, true)] (by kernel_rfl) (by kernel_rfl) (fun _ _ d _ _ h => by cases d <;> exact h) ((Below.refl _ W4).drew) ?_
    iterate 8 (refine seg_take (v := ?_) rfl (Or.inl ⟨by rfl, ?_⟩) ?_; rotate_left; (focus (intro w' hw'; have j0 := (hw'.cell (p := ⟨w.heap.size, 0, none⟩) lq).trans c0; have j1 := (hw'.cell (p := ⟨g, i, none⟩) lg).trans ci; go_simp <;> with_reducible rfl)); try simp only [Act.put, List.setIfInBounds_toArray, List.set_cons_zero, List.set_cons_succ])
    refine seg_run rfl (fun K hK => ?_)
    go_simp
    have HX := (Below.refl W4.heap.size W4).drew
    refine (clone_any B 256 d Y _ ((HYY.out.below (below_then hw0 B4)).below HX) (by omega)).mono ?_
    rintro e_ w5 ⟨A5, n5, c5, rfl, ho5, hb5⟩
    refine hK.out _ _ ((below_then HX hb5)) ?_
    clear hK
    try simp only [Act.put, List.setIfInBounds_toArray, List.set_cons_zero, List.set_cons_succ]
    iterate 1 (refine seg_take (v := ?_) rfl (Or.inl ⟨by rfl, ?_⟩) ?_; rotate_left; (focus (intro w' hw'; have j0 := (hw'.cell (p := ⟨w.heap.size, 0, none⟩) lq).trans c0; have j1 := (hw'.cell (p := ⟨g, i, none⟩) lg).trans ci; go_simp <;> with_reducible rfl)); try simp only [Act.put, List.setIfInBounds_toArray, List.set_cons_zero, List.set_cons_succ])
    refine seg_done ?_
    refine last_run rfl (fun K hK => ?_)
    go_simp
    have O5 := down_keep O4.out (below_then HX hb5)
    have ci5 := (World.ownsRow.cellAt O5 i (by omega)).trans HVI.out
    have fi5 := World.ownsRow.frozenAt O5 i
    go_simp
    refine hK.out _ _ ?_
    clear hK
    try simp only [Act.put, List.setIfInBounds_toArray, List.set_cons_zero, List.set_cons_succ]
    have hb5 := below_then HX hb5
    obtain rfl : n5 = 256 := by rw [← ho5.len, HHL.out]
    obtain ⟨g5, e5, h51, h52⟩ := ho5.addr (by omega)
    subst e5
    have O5 := down_keep O4.out hb5
    obtain ⟨cur5, hc5⟩ := own_rowOf O5
    have gq := HBG.out
    have gz := HZ2.out
    have g5q : w.heap.size + 1 < g5 := by have := R4.out.lt; have : W4.drew.heap.size = W4.heap.size := rfl; omega
    have gg5 : g ≠ g5 := by obtain ⟨cr, hcr⟩ := own_rowOf ho5; exact dtyp_ne hc5 hcr (by decide)
    obtain ⟨W6, hW6⟩ : ∃ W, W = w5.setCell ⟨g, i, none⟩ (.slice (some ⟨g5, 0, none⟩) 256 c5) := ⟨_, rfl⟩
    have o6 : W6.ownsRow w2.heap.size 35 1 (.slice (some ⟨g, 0, none⟩) sn c3) sn (vs.set i (.slice (some ⟨g5, 0, none⟩) 256 c5)) := by rw [hW6]; exact (World.ownsRow.stored O5 i _).1
    have d6 : OwnB W6 W4.heap.size (some ⟨g5, 0, none⟩) 256 c5 Y := by rw [hW6]; exact own_far ho5 hc5 (by decide) i _
    have q6 : DkAt W6 w.heap.size (some ⟨g, 0, none⟩) sn c3 Kd kn kc := by rw [hW6]; exact (heap_setCell_other _ _ _ _ (by show w.heap.size ≠ g; omega)).trans (Q4.out.up hb5)
    have r6 : DkAt W6 (w.heap.size + 1) none 0 0 none 0 0 := by rw [hW6]; exact (heap_setCell_other _ _ _ _ (by show w.heap.size + 1 ≠ g; omega)).trans (R4.out.up hb5)
    have B6 : Below w.heap.size w W6 := by rw [hW6]; exact (below_then B4 hb5).setCell (p := ⟨g, i, none⟩) (by show w.heap.size ≤ g; omega) _
    have HW6 := Lib.hid hW6
    have Q6 := Lib.hid q6
    have R6 := Lib.hid r6
    have O6 := Lib.hid o6
    have D6 := Lib.hid d6
    have HO5 := Lib.hid O5
    clear hW6 q6 r6 o6 d6 O5 hc5 ho5 c0 ci
    rw [← HW6.out]
    have c0 := Q6.out.c0
    have c1 := Q6.out.c1
    have ci := (World.ownsRow.cellAt O6.out i (by omega)).trans (List.getElem?_set_self (by rw [HS.out.2.1]; exact hi))
    obtain ⟨u9, hu9, hc9⟩ := D6.out.cell_ q hq
    have hf9 := D6.out.free q
    have ex := du8_xor u9 u
    have D7 := Lib.hid (D6.out.set_ q (u9 ^^^ u))
    have HU9 := Lib.hid hu9
    have n1 : ¬ (g5 = w.heap.size) := by omega
    have n2 : ¬ (w.heap.size = g5) := by omega
    have n3 : ¬ (g5 = w.heap.size + 1) := by omega
    have n4 : ¬ (w.heap.size + 1 = g5) := by omega
    have y0 := R6.out.c0
    have y1 := R6.out.c1
    have f0 := R6.out.fr 0
    have f1 := R6.out.fr 1
    obtain ⟨bv, hbv⟩ : ∃ bv : Int, bv = (((u9 ^^^ u).toNat : Nat) : Int) := ⟨_, rfl⟩
    rw [← hbv] at ex D7
    have x0 : (W6.setCell ⟨g5, q, none⟩ (.int .u8 bv)).cell? ⟨w.heap.size, 0, none⟩ = some (.slice (some ⟨g, 0, none⟩) sn c3) := (World.cell?_of_block (heap_setCell_other _ _ _ _ n2)).trans c0
    have x1 : (W6.setCell ⟨g5, q, none⟩ (.int .u8 bv)).cell? ⟨w.heap.size, 1, none⟩ = some (.slice Kd kn kc) := (World.cell?_of_block (heap_setCell_other _ _ _ _ n2)).trans c1
    clear hu9 hbv
    go_wp2_with fail
    have r7 : DkAt (W6.setCell ⟨g5, q, none⟩ (.int .u8 bv)) (w.heap.size + 1) none 0 0 none 0 0 := (heap_setCell_other _ _ _ _ n4).trans R6.out
    have QS := Lib.hid (r7.s01 (some ⟨g, 0, none⟩) sn c3 Kd kn kc)
    have BF := below2 (B6.setCell (p := ⟨g5, q, none⟩) (by show w.heap.size ≤ g5; omega) (.int .u8 bv)) (q := w.heap.size + 1) (by omega) (.slice (some ⟨g, 0, none⟩) sn c3) (.slice Kd kn kc)
    obtain ⟨cur6, hc6⟩ := own_rowOf D6.out
    have oF := own_far (own_far (own_far O6.out hc6 (by decide) q (.int .u8 bv)) r7 (by decide) 0 (.slice (some ⟨g, 0, none⟩) sn c3)) (r7.s0 (some ⟨g, 0, none⟩) sn c3) (by decide) 1 (.slice Kd kn kc)
    have dF : OwnB _ _ (some ⟨g5, 0, none⟩) 256 c5 (Y.set q (u9 ^^^ u)) := own_far (own_far D7.out r7 (by decide) 0 (.slice (some ⟨g, 0, none⟩) sn c3)) (r7.s0 (some ⟨g, 0, none⟩) sn c3) (by decide) 1 (.slice Kd kn kc)
    refine bodyPost_ret (dresults_cell_tmp Try.results22 _ _ (w.heap.size + 1) 25 _ (0, 0) _ rfl QS.out Try.underlying25 rfl (dkInfo ..)) rfl ?_
    obtain ⟨A9, c9, hv9, e3, e4, _⟩ := own_form oF
    injection hv9 with _ _ hv9
    subst hv9
    refine ⟨some ⟨g, 0, none⟩, sn, c3, Kd, kn, kc, rfl, BF, fun W hbW hag => ?_⟩
    have oF := own_agr oF (fun j hj hj2 => hag j (by have := B2.size; omega) hj2)
    have dF : OwnB W _ (some ⟨g5, 0, none⟩) 256 c5 (Y.set q (u9 ^^^ u)) := own_agr dF (fun j hj hj2 => hag j (by have := B4.size; omega) hj2)
    refine ⟨⟨_, Rd.of_own oF, by rw [List.length_set]; exact HS.out.2.1, e3, e4, parts_get (by rw [List.length_set, List.length_set]; exact HS.out.2.2.2.2.length) (fun k hk => ?_)⟩, us, HUS.out.below hbW⟩
    rw [List.length_set] at hk
    by_cases hki : k = i
    · subst hki
      refine ⟨_, _, _, List.getElem?_set_self hk, ?_⟩
      have e : (D.s.set k (dkTampered Y q u)).getD k [] = Y.set q (u9 ^^^ u) := by
        rw [List.getD, List.getElem?_set_self (by rw [← HS.out.2.2.2.2.length]; exact hk)]
        unfold dkTampered
        rw [List.getD, HU9.out]; rfl
      rw [e]; exact dF.rd
    · obtain ⟨A8, m8, c8, e8, r8⟩ := HS.out.2.2.2.2.at_ k hk (by rw [← HS.out.2.2.2.2.length]; exact hk)
      refine ⟨A8, m8, c8, by rw [List.getElem?_set_ne (by omega), List.getElem?_eq_getElem hk, e8], ?_⟩
      rw [List.getD, List.getElem?_set_ne (by omega), List.getElem?_eq_getElem (by rw [← HS.out.2.2.2.2.length]; exact hk)]
      exact r8.below hbW
theorem dskTamperI_any (S : Option Addr) (sn sc : Nat) (Kd : Option Addr) (kn kc : Nat) (D : Dk) (a p : Int) (u : UInt8) (w0 w : World) (hr0 : RdDk w0 S sn sc Kd kn kc D) (hw0 : Below w0.heap.size w0 w) (ha : -9223372036854775808 ≤ a ∧ a ≤ 9223372036854775807) (hp : -9223372036854775808 ≤ p ∧ p ≤ 9223372036854775807) :
    Calls Try.prog 22 #[.agg #[.slice S sn sc, .slice Kd kn kc], .int .i64 a, .int .i64 p, .int .u8 (u.toNat : Int)] w (RetDkI w0 w (dkTamper D a p u) (dkTamperE D a p)) := by
  have hr := hr0.below hw0
  by_cases h : dkAsk D a = 0
  · by_cases h1 : p < 0
    · have e : dkTamperE D a p = 2 := by unfold dkTamperE; rw [if_neg (by simp [h]), if_pos (.inl h1)]
      rw [e, show dkTamper D a p u = D by unfold dkTamper; rw [if_neg (by rw [e]; decide)]]
      exact dskTamperI_low S sn sc Kd kn kc D a p u w0 w hr0 hw0 ha hp h h1
    · by_cases h2 : 256 ≤ p
      · have e : dkTamperE D a p = 2 := by unfold dkTamperE; rw [if_neg (by simp [h]), if_pos (.inr h2)]
        rw [e, show dkTamper D a p u = D by unfold dkTamper; rw [if_neg (by rw [e]; decide)]]
        exact dskTamperI_high S sn sc Kd kn kc D a p u w0 w hr0 hw0 ha hp h h2
      · have e : dkTamperE D a p = 0 := by unfold dkTamperE; rw [if_neg (by simp [h]), if_neg (by omega)]
        rw [e, show dkTamper D a p u = ⟨D.s.set a.toNat (dkTampered (D.s.getD a.toNat []) p.toNat u), D.k⟩ by unfold dkTamper; rw [if_pos e]]
        exact dskTamperI_ok S sn sc Kd kn kc D a p u w0 w hr0 hw0 ha hp h (by omega) (by omega)
  · have e : dkTamperE D a p = dkAsk D a := by unfold dkTamperE; rw [if_pos h]
    rw [e, show dkTamper D a p u = D by unfold dkTamper; rw [if_neg (by rw [e]; exact h)]]
    exact dskTamperI_no S sn sc Kd kn kc D a p u w0 w hr0 hw0 ha hp h
theorem ref_TamperI_any (S : Option Addr) (sn sc : Nat) (K : Option Addr) (kn kc : Nat) (D : Dk) (a p : Int) (u : UInt8) (w0 w : World) (hr0 : RdDk w0 S sn sc K kn kc D) (hw0 : Below w0.heap.size w0 w) (ha : -9223372036854775808 ≤ a ∧ a ≤ 9223372036854775807) (hp : -9223372036854775808 ≤ p ∧ p ≤ 9223372036854775807) :
    Calls Try.prog 23 #[.agg #[.slice S sn sc, .slice K kn kc], .int .i64 a, .int .i64 p, .int .u8 (u.toNat : Int)] w (RetDkI w0 w (dkTamper D a p u) (dkTamperE D a p)) := by
  have hr := hr0.below hw0
  obtain ⟨hn1, hn2, _, _, _, _⟩ := hr.n63
  have hsl := hr.sl
  have hkl := hr.kl
  obtain ⟨V, hV⟩ : ∃ V, V = (w.alloc (.cells #[.slice S sn sc, .slice K kn kc] 25)).alloc (.cells #[.slice none 0 0, .slice none 0 0] 25) := ⟨_, rfl⟩
  have bV : Below w.heap.size w V := by rw [hV]; exact ((below_self w).alloc (Nat.le_refl _) _).alloc (by simp) _
  have qV : Hid (DkAt V w.heap.size S sn sc K kn kc) := by rw [hV]; exact Lib.hid (drw_old _ (drw_at _ rfl))
  have rV : Hid (DkAt V (w.heap.size + 1) none 0 0 none 0 0) := by rw [hV]; exact Lib.hid (drw_at _ (by simp))
  have HV := Lib.hid hV
  have C1 := Lib.hid (refDskCheck_any S sn sc K kn kc D V (hr.below bV))
  have C2 := Lib.hid (fun W => refDskHas_any S sn sc K kn kc a W hn1 ha)
  have hno : ¬ dkTamperE D a p = 0 → dkTamper D a p u = D := fun h => by unfold dkTamper; rw [if_neg h]
  clear hV
  rcases dkAsk_cases hsl a with ⟨h1, h2⟩ | ⟨h1, h2, h3⟩ | ⟨h1, h0, h2, h3, h4⟩
  · have e : dkTamperE D a p = 3 := by unfold dkTamperE; rw [if_pos (by rw [h2]; decide), h2]
    rw [hno (by rw [e]; decide), e]
    rw [h1] at C1
    clear h1 h2 hno e
    go_enter Try.func23, Try.ntmps23
    go_wp2_with fail
    rw [← HV.out]
    refine C1.out.mono ?_
    rintro e w1 ⟨rfl, hb1⟩
    have B1 := below_then bV hb1
    have q := Lib.hid (qV.out.up hb1)
    have r := Lib.hid (rV.out.up hb1)
    have x0 := q.out.c0
    have x1 := q.out.c1
    have y0 := r.out.c0
    have y1 := r.out.c1
    have f0 := r.out.fr 0
    have f1 := r.out.fr 1
    have QS := Lib.hid (r.out.s01 S sn sc K kn kc)
    go_wp2_with fail
    refine bodyPost_ret (dresults_cell_tmp Try.results23 _ _ (w.heap.size + 1) 25 _ (0, 0) _ rfl QS.out Try.underlying25 rfl (dkInfo ..)) rfl ?_
    exact ⟨S, sn, sc, K, kn, kc, rfl, below2 B1 (by omega) _ _, fun W hbW _ => hr0.below hbW⟩
  · have e : dkTamperE D a p = 50 := by unfold dkTamperE; rw [if_pos (by rw [h3]; decide), h3]
    rw [hno (by rw [e]; decide), e]
    rw [h1] at C1
    rw [h2] at C2
    clear h1 h2 h3 hno e
    go_enter Try.func23, Try.ntmps23
    go_wp2_with fail
    rw [← HV.out]
    refine C1.out.mono ?_
    rintro e w1 ⟨rfl, hb1⟩
    have B1 := below_then bV hb1
    have q := Lib.hid (qV.out.up hb1)
    have r := Lib.hid (rV.out.up hb1)
    have x0 := q.out.c0
    have x1 := q.out.c1
    go_wp2_with fail
    refine (C2.out w1).mono ?_
    rintro e w2 ⟨rfl, hb2⟩
    have B2 := below_then B1 hb2
    have q := Lib.hid (q.out.up hb2)
    have r := Lib.hid (r.out.up hb2)
    have x0 := q.out.c0
    have x1 := q.out.c1
    have y0 := r.out.c0
    have y1 := r.out.c1
    have f0 := r.out.fr 0
    have f1 := r.out.fr 1
    have QS := Lib.hid (r.out.s01 S sn sc K kn kc)
    go_wp2_with fail
    refine bodyPost_ret (dresults_cell_tmp Try.results23 _ _ (w.heap.size + 1) 25 _ (0, 0) _ rfl QS.out Try.underlying25 rfl (dkInfo ..)) rfl ?_
    exact ⟨S, sn, sc, K, kn, kc, rfl, below2 B2 (by omega) _ _, fun W hbW _ => hr0.below hbW⟩
  · have hok := h1
    rw [h1] at C1
    rw [h3] at C2
    have hs5 : sn ≤ 256 := by rw [← hsl]; exact ((dkOk_iff D).1 hok).1
    clear h1 h3
    by_cases hp0 : p < 0
    · have e : dkTamperE D a p = 2 := by unfold dkTamperE; rw [if_neg (by simp [h4]), if_pos (.inl hp0)]
      rw [hno (by rw [e]; decide), e]
      have d1 : decide (p < 0) = true := decide_eq_true hp0
      clear hno e h4 hok hp0
      go_enter Try.func23, Try.ntmps23
      go_wp2_with fail
      rw [← HV.out]
      refine C1.out.mono ?_
      rintro e w1 ⟨rfl, hb1⟩
      have B1 := below_then bV hb1
      have q := Lib.hid (qV.out.up hb1)
      have r := Lib.hid (rV.out.up hb1)
      have x0 := q.out.c0
      have x1 := q.out.c1
      go_wp2_with fail
      refine (C2.out w1).mono ?_
      rintro e w2 ⟨rfl, hb2⟩
      have B2 := below_then B1 hb2
      have q := Lib.hid (q.out.up hb2)
      have r := Lib.hid (r.out.up hb2)
      have x0 := q.out.c0
      have x1 := q.out.c1
      have y0 := r.out.c0
      have y1 := r.out.c1
      have f0 := r.out.fr 0
      have f1 := r.out.fr 1
      have QS := Lib.hid (r.out.s01 S sn sc K kn kc)
      go_wp2_with fail
      refine bodyPost_ret (dresults_cell_tmp Try.results23 _ _ (w.heap.size + 1) 25 _ (0, 0) _ rfl QS.out Try.underlying25 rfl (dkInfo ..)) rfl ?_
      exact ⟨S, sn, sc, K, kn, kc, rfl, below2 B2 (by omega) _ _, fun W hbW _ => hr0.below hbW⟩
    · have d1 : decide (p < 0) = false := decide_eq_false hp0
      by_cases hp1 : 256 ≤ p
      · have e : dkTamperE D a p = 2 := by unfold dkTamperE; rw [if_neg (by simp [h4]), if_pos (.inr hp1)]
        rw [hno (by rw [e]; decide), e]
        have d2 : decide (256 ≤ p) = true := decide_eq_true hp1
        clear hno e h4 hok hp0 hp1
        go_enter Try.func23, Try.ntmps23
        go_wp2_with fail
        rw [← HV.out]
        refine C1.out.mono ?_
        rintro e w1 ⟨rfl, hb1⟩
        have B1 := below_then bV hb1
        have q := Lib.hid (qV.out.up hb1)
        have r := Lib.hid (rV.out.up hb1)
        have x0 := q.out.c0
        have x1 := q.out.c1
        go_wp2_with fail
        refine (C2.out w1).mono ?_
        rintro e w2 ⟨rfl, hb2⟩
        have B2 := below_then B1 hb2
        have q := Lib.hid (q.out.up hb2)
        have r := Lib.hid (r.out.up hb2)
        have x0 := q.out.c0
        have x1 := q.out.c1
        have y0 := r.out.c0
        have y1 := r.out.c1
        have f0 := r.out.fr 0
        have f1 := r.out.fr 1
        have QS := Lib.hid (r.out.s01 S sn sc K kn kc)
        go_wp2_with fail
        refine bodyPost_ret (dresults_cell_tmp Try.results23 _ _ (w.heap.size + 1) 25 _ (0, 0) _ rfl QS.out Try.underlying25 rfl (dkInfo ..)) rfl ?_
        exact ⟨S, sn, sc, K, kn, kc, rfl, below2 B2 (by omega) _ _, fun W hbW _ => hr0.below hbW⟩
      · have e : dkTamperE D a p = 0 := by unfold dkTamperE; rw [if_neg (by simp [h4]), if_neg (by omega)]
        rw [e, show dkTamper D a p u = ⟨D.s.set a.toNat (dkTampered (D.s.getD a.toNat []) p.toNat u), D.k⟩ by unfold dkTamper; rw [if_pos e]]
        have d2 : decide (256 ≤ p) = false := decide_eq_false hp1
        obtain ⟨i, rfl⟩ : ∃ i : Nat, a = (i : Int) := ⟨a.toNat, by omega⟩
        obtain ⟨j, rfl⟩ : ∃ j : Nat, p = (j : Int) := ⟨p.toNat, by omega⟩
        rw [Int.toNat_natCast, Int.toNat_natCast]
        have hi : i < sn := by omega
        have hj : j < 256 := by omega
        have hl9 := dkOk_slen hok i (by omega)
        have l1 : (i : Int) < (sn : Int) := by omega
        have l2 : (j : Int) < 256 := by omega
        obtain ⟨⟨vs, hs⟩, us, hus⟩ := id hr0
        obtain ⟨b5, o5, B, m, d, hSe, hb5, hc5, hy⟩ := hs.at_ i hi
        obtain ⟨Y, hY⟩ : ∃ Y, D.s.getD i [] = Y := ⟨_, rfl⟩
        rw [hY] at hl9 hy ⊢
        have hm : m = 256 := by rw [← hy.2.1]; exact hl9
        subst hm
        have HUS := Lib.hid hus
        have HS := Lib.hid hs
        have HYY := Lib.hid hy
        have HHL := Lib.hid hl9
        have H1c := Lib.hid (parts_one hs.2.2.2.2)
        subst hSe
        clear hno e h4 hok hp0 hp1 hus hs hy hl9 hY hsl
        go_enter Try.func23, Try.ntmps23
        go_wp2_with fail
        rw [← HV.out]
        refine C1.out.mono ?_
        rintro e w1 ⟨rfl, hb1⟩
        have B1 := below_then bV hb1
        have q := Lib.hid (qV.out.up hb1)
        have r := Lib.hid (rV.out.up hb1)
        have x0 := q.out.c0
        have x1 := q.out.c1
        go_wp2_with fail
        refine (C2.out w1).mono ?_
        rintro e w2 ⟨rfl, hb2⟩
        have B2 := below_then B1 hb2
        have q := Lib.hid (q.out.up hb2)
        have r := Lib.hid (r.out.up hb2)
        have x0 := q.out.c0
        have x1 := q.out.c1
        have bA := (below_self w2).alloc (Nat.le_refl _) (.cells #[] 5)
        have HO2 := Lib.hid (OwnB.lit w2 #[] [] 0 rfl rfl (by simp [maxLen]))
        have x0a : (w2.alloc (.cells #[] 5)).cell? ⟨w.heap.size, 0, none⟩ = some (.slice (some ⟨b5, o5, none⟩) sn sc) := (q.out.up bA).c0
        have x5a : (w2.alloc (.cells #[] 5)).cell? ⟨b5, o5 + i, none⟩ = some (.slice B 256 d) := ((below_then hw0 (below_then B2 bA)).cell (p := ⟨b5, o5 + i, none⟩) hb5).trans hc5
        have Q2 := q
        have R2 := r
        have lq2 := q.out.lt
        have lr2 := r.out.lt
        go_wp2_with (first
          | (
            at_builtin
            refine wp_appB rfl _ _ rfl ((below_self w2).alloc (Nat.le_refl _) _) (Nat.le_refl _) (by simp) (some ⟨w2.heap.size, 0, none⟩) 0 0 [] rfl HO2.out B 256 d Y rfl ((HYY.out.below (below_then hw0 B2)).alloc _) (by omega) 256 Y (by omega) rfl ?_
            intro A5 c5 w5 ho5 hb5g hg5
            obtain ⟨g5, e5, h51, h52⟩ := ho5.addr (by omega)
            subst e5
            obtain ⟨u9, hu9, hc9⟩ := ho5.cell_ j hj
            have hf9 := ho5.free j
            have ex := du8_xor u9 u
            have HD7 := Lib.hid (ho5.set_ j (u9 ^^^ u))
            have HU9 := Lib.hid hu9
            obtain ⟨bv, hbv⟩ : ∃ bv : Int, bv = (((u9 ^^^ u).toNat : Nat) : Int) := ⟨_, rfl⟩
            rw [← hbv] at ex HD7
            obtain ⟨U6, hU6⟩ : ∃ U, U = w5.setCell ⟨g5, j, none⟩ (.int .u8 bv) := ⟨_, rfl⟩
            have HU6 := Lib.hid hU6
            rw [← hU6] at HD7
            have b6 : Below w2.heap.size w2 U6 := (by rw [hU6]; exact hb5g.setCell (p := ⟨g5, j, none⟩) h51 _)
            have Q6 := Lib.hid (Q2.out.up b6)
            have x0b : ((w5.setCell ⟨g5, j, none⟩ (.int .u8 bv)).alloc (.cells #[] 35)).cell? ⟨w.heap.size, 0, none⟩ = some (.slice (some ⟨b5, o5, none⟩) sn sc) := (by rw [← hU6]; exact (Q6.out.up ((below_self U6).alloc (Nat.le_refl _) _)).c0)
            have zU : U6.heap.size = w5.heap.size := (by rw [hU6]; simp)
            have hown := World.ownsRow_lit (size := 1) (e := 35) U6 #[] 0 (Nat.le_refl _) (by simp [maxLen]) rfl
            rw [zU] at hown
            have HO6 := Lib.hid hown
            have ZU := Lib.hid zU
            have l52 : w2.heap.size ≤ w5.heap.size := hb5g.size
            clear hu9 hbv hU6 hown ho5 hg5 x0 x1 x0a x5a zU
            )
          | (
            at_builtin
            rw [← HU6.out]
            refine wp_app rfl _ _ 22 35 rfl delemSS _ _ 0 _ rfl HO6.out _ sn sc vs rfl (((HS.out.below (below_then hw0 (below_then B2 b6))).1).alloc _) (by simpa using HS.out.2.1) H1c.out (by unfold maxLen; omega) (by omega) (by simp; have := ZU.out; omega) ?_
            intro A7 c7 w7 ho7 hg7
            have hb7 : Below U6.heap.size U6 w7 := ((Below.refl _ _).alloc (Nat.le_refl _) _).grown hg7 (by simp) (fun q hq => by have := (HO6.out.lt q hq).1; have := ZU.out; omega)
            have HO7 := Lib.hid (show w7.ownsRow w5.heap.size 35 1 (.slice A7 sn c7) sn vs by simpa using ho7)
            obtain ⟨g7, cap7, hv7, hbg7, hlg7⟩ := World.ownsRow.form HO7.out (by omega)
            injection hv7 with hv7 hv8 hv9
            subst hv7 hv9
            have Q7 := Lib.hid (Q6.out.up hb7)
            have R7 := Lib.hid ((R2.out.up b6).up hb7)
            have D7 := Lib.hid (HD7.out.below hb7)
            have z0 := Q7.out.c0
            have z1 := Q7.out.c1
            have z2 := Q7.out.fr 0
            have n7 : ¬ (g7 = w.heap.size) := (by omega)
            have n8 : ¬ (w.heap.size = g7) := (by omega)
            obtain ⟨W8, hW8⟩ : ∃ W, W = w7.setCell ⟨w.heap.size, 0, none⟩ (.slice (some ⟨g7, 0, none⟩) sn c7) := ⟨_, rfl⟩
            have Q8 : Hid (DkAt W8 w.heap.size (some ⟨g7, 0, none⟩) sn c7 K kn kc) := (by rw [hW8]; exact Lib.hid (Q7.out.s0 _ _ _))
            have R8 : Hid (DkAt W8 (w.heap.size + 1) none 0 0 none 0 0) := (by rw [hW8]; exact Lib.hid ((heap_setCell_other _ _ _ _ (by show w.heap.size + 1 ≠ w.heap.size; omega)).trans R7.out))
            have O8 : Hid (W8.ownsRow w5.heap.size 35 1 (.slice (some ⟨g7, 0, none⟩) sn c7) sn vs) := (by rw [hW8]; exact Lib.hid (own_far HO7.out Q7.out (by decide) 0 _))
            have D8 : Hid (OwnB W8 w2.heap.size (some ⟨g5, 0, none⟩) 256 c5 (Y.set j (u9 ^^^ u))) := (by rw [hW8]; exact Lib.hid (own_far D7.out Q7.out (by decide) 0 _))
            have k0 := Q8.out.c0
            have k1 := World.ownsRow.cellAt O8.out i (by omega)
            have k2 := World.ownsRow.frozenAt O8.out i
            rw [List.getElem?_eq_getElem (by rw [HS.out.2.1]; exact hi)] at k1
            obtain ⟨v1, hv1⟩ : ∃ v, vs[i]'(by rw [HS.out.2.1]; exact hi) = v := ⟨_, rfl⟩
            rw [hv1] at k1
            obtain ⟨cur8, hc8⟩ := own_rowOf O8.out
            obtain ⟨W9, hW9⟩ : ∃ W, W = W8.setCell ⟨g7, i, none⟩ (.slice (some ⟨g5, 0, none⟩) 256 c5) := ⟨_, rfl⟩
            have Q9 : Hid (DkAt W9 w.heap.size (some ⟨g7, 0, none⟩) sn c7 K kn kc) := (by rw [hW9]; exact Lib.hid ((heap_setCell_other _ _ _ _ (by show w.heap.size ≠ g7; omega)).trans Q8.out))
            have R9 : Hid (DkAt W9 (w.heap.size + 1) none 0 0 none 0 0) := (by rw [hW9]; exact Lib.hid ((heap_setCell_other _ _ _ _ (by show w.heap.size + 1 ≠ g7; omega)).trans R8.out))
            have O9 : Hid (W9.ownsRow w5.heap.size 35 1 (.slice (some ⟨g7, 0, none⟩) sn c7) sn (vs.set i (.slice (some ⟨g5, 0, none⟩) 256 c5))) := (by rw [hW9]; exact Lib.hid (World.ownsRow.stored O8.out i _).1)
            have D9 : Hid (OwnB W9 w2.heap.size (some ⟨g5, 0, none⟩) 256 c5 (Y.set j (u9 ^^^ u))) := (by rw [hW9]; exact Lib.hid (own_far D8.out hc8 (by decide) i _))
            have B9 : Below w.heap.size w W9 := (by rw [hW9, hW8]; exact ((below_then (below_then B2 b6) hb7).setCell (p := ⟨w.heap.size, 0, none⟩) (Nat.le_refl _) _).setCell (p := ⟨g7, i, none⟩) (by show w.heap.size ≤ g7; omega) _)
            have t1 : (w7.setCell ⟨w.heap.size, 0, none⟩ (.slice (some ⟨g7, 0, none⟩) sn c7)).cell? ⟨w.heap.size, 0, none⟩ = some (.slice (some ⟨g7, 0, none⟩) sn c7) := (by rw [← hW8]; exact k0)
            have t2 : (w7.setCell ⟨w.heap.size, 0, none⟩ (.slice (some ⟨g7, 0, none⟩) sn c7)).cell? ⟨g7, i, none⟩ = some v1 := (by rw [← hW8]; exact k1)
            have t3 : (w7.setCell ⟨w.heap.size, 0, none⟩ (.slice (some ⟨g7, 0, none⟩) sn c7)).frozen? ⟨g7, i, none⟩ = false := (by rw [← hW8]; exact k2)
            have t4 : ((w7.setCell ⟨w.heap.size, 0, none⟩ (.slice (some ⟨g7, 0, none⟩) sn c7)).setCell ⟨g7, i, none⟩ (.slice (some ⟨g5, 0, none⟩) 256 c5)).cell? ⟨w.heap.size, 0, none⟩ = some (.slice (some ⟨g7, 0, none⟩) sn c7) := (by rw [← hW8, ← hW9]; exact Q9.out.c0)
            have t5 : ((w7.setCell ⟨w.heap.size, 0, none⟩ (.slice (some ⟨g7, 0, none⟩) sn c7)).setCell ⟨g7, i, none⟩ (.slice (some ⟨g5, 0, none⟩) 256 c5)).cell? ⟨w.heap.size, 1, none⟩ = some (.slice K kn kc) := (by rw [← hW8, ← hW9]; exact Q9.out.c1)
            have t6 : ((w7.setCell ⟨w.heap.size, 0, none⟩ (.slice (some ⟨g7, 0, none⟩) sn c7)).setCell ⟨g7, i, none⟩ (.slice (some ⟨g5, 0, none⟩) 256 c5)).cell? ⟨w.heap.size + 1, 0, none⟩ = some (.slice none 0 0) := (by rw [← hW8, ← hW9]; exact R9.out.c0)
            have t7 : ((w7.setCell ⟨w.heap.size, 0, none⟩ (.slice (some ⟨g7, 0, none⟩) sn c7)).setCell ⟨g7, i, none⟩ (.slice (some ⟨g5, 0, none⟩) 256 c5)).cell? ⟨w.heap.size + 1, 1, none⟩ = some (.slice none 0 0) := (by rw [← hW8, ← hW9]; exact R9.out.c1)
            have t8 : ((w7.setCell ⟨w.heap.size, 0, none⟩ (.slice (some ⟨g7, 0, none⟩) sn c7)).setCell ⟨g7, i, none⟩ (.slice (some ⟨g5, 0, none⟩) 256 c5)).frozen? ⟨w.heap.size + 1, 0, none⟩ = false := (by rw [← hW8, ← hW9]; exact R9.out.fr 0)
            have t9 : ((w7.setCell ⟨w.heap.size, 0, none⟩ (.slice (some ⟨g7, 0, none⟩) sn c7)).setCell ⟨g7, i, none⟩ (.slice (some ⟨g5, 0, none⟩) 256 c5)).frozen? ⟨w.heap.size + 1, 1, none⟩ = false := (by rw [← hW8, ← hW9]; exact R9.out.fr 1)
            have HW9 := Lib.hid (show W9 = (w7.setCell ⟨w.heap.size, 0, none⟩ (.slice (some ⟨g7, 0, none⟩) sn c7)).setCell ⟨g7, i, none⟩ (.slice (some ⟨g5, 0, none⟩) 256 c5) by rw [hW9, hW8])
            clear ho7 hg7 hbg7 hlg7 k0 k1 k2 hv1 hc8 hW8 hW9 x0b hc9 hf9 ex
            ))
        have QS := Lib.hid (R9.out.s01 (some ⟨g7, 0, none⟩) sn c7 K kn kc)
        have BF := below2 B9 (q := w.heap.size + 1) (by omega) (.slice (some ⟨g7, 0, none⟩) sn c7) (.slice K kn kc)
        have oF := own_far (own_far O9.out R9.out (by decide) 0 (.slice (some ⟨g7, 0, none⟩) sn c7)) (R9.out.s0 (some ⟨g7, 0, none⟩) sn c7) (by decide) 1 (.slice K kn kc)
        have dF : OwnB _ _ (some ⟨g5, 0, none⟩) 256 c5 (Y.set j (u9 ^^^ u)) := own_far (own_far D9.out R9.out (by decide) 0 (.slice (some ⟨g7, 0, none⟩) sn c7)) (R9.out.s0 (some ⟨g7, 0, none⟩) sn c7) (by decide) 1 (.slice K kn kc)
        rw [← HW9.out]
        refine bodyPost_ret (dresults_cell_tmp Try.results23 _ _ (w.heap.size + 1) 25 _ (0, 0) _ rfl QS.out Try.underlying25 rfl (dkInfo ..)) rfl ?_
        obtain ⟨A9, c9, hv9, e3, e4, _⟩ := own_form oF
        injection hv9 with _ _ hv9
        subst hv9
        refine ⟨some ⟨g7, 0, none⟩, sn, c7, K, kn, kc, rfl, BF, fun W hbW hag => ?_⟩
        have oF := own_agr oF (fun j hj hj2 => hag j (by have := B2.size; omega) hj2)
        have dF : OwnB W _ (some ⟨g5, 0, none⟩) 256 c5 (Y.set j (u9 ^^^ u)) := own_agr dF (fun j hj hj2 => hag j (by have := B2.size; omega) hj2)
        refine ⟨⟨_, Rd.of_own oF, by rw [List.length_set]; exact HS.out.2.1, e3, e4, parts_get (by rw [List.length_set, List.length_set]; exact HS.out.2.2.2.2.length) (fun k hk => ?_)⟩, us, HUS.out.below hbW⟩
        rw [List.length_set] at hk
        by_cases hki : k = i
        · subst hki
          refine ⟨_, _, _, List.getElem?_set_self hk, ?_⟩
          have e : (D.s.set k (dkTampered Y j u)).getD k [] = Y.set j (u9 ^^^ u) := by
            rw [List.getD, List.getElem?_set_self (by rw [← HS.out.2.2.2.2.length]; exact hk)]
            unfold dkTampered
            rw [List.getD, HU9.out]; rfl
          rw [e]; exact dF.rd
        · obtain ⟨A8, m8, c8, e8, r8⟩ := HS.out.2.2.2.2.at_ k hk (by rw [← HS.out.2.2.2.2.length]; exact hk)
          refine ⟨A8, m8, c8, by rw [List.getElem?_set_ne (by omega), List.getElem?_eq_getElem hk, e8], ?_⟩
          rw [List.getD, List.getElem?_set_ne (by omega), List.getElem?_eq_getElem (by rw [← HS.out.2.2.2.2.length]; exact hk)]
          exact r8.below hbW
end Go.Proofs.Yteajboafcjeagaa
