/-
  Layer 5: disks: the law DiskTells.
-/
import Derived.Test.YteajboafcjeagaaDskV
import Derived.Test.YteajboafcjeagaaDskL
namespace Go.Proofs.Yteajboafcjeagaa
set_option maxRecDepth 20000
open Go.RowKit
set_option linter.unusedVariables false
set_option linter.unusedSimpArgs false
set_option maxHeartbeats 8000000

def RetDvI (w0 w : World) (D : Dk) (er : Int) (e : Ending) (w' : World) : Prop :=
  ∃ AV, e = .returned (.tuple #[.agg AV, .int .i64 er]) ∧ Below w.heap.size w w' ∧ DkVal AV w' D ∧ ∀ W, Below w0.heap.size w0 W → (∀ j, w.heap.size ≤ j → j < w'.heap.size → W.heap[j]? = w'.heap[j]?) → DkVal AV W D
theorem retDvI_of {w0 w w' : World} {D : Dk} {er : Int} {e : Ending} (hw : Below w0.heap.size w0 w) (h : RetDkI w0 w D er e w') : RetDvI w0 w D er e w' := by
  obtain ⟨S, sn, sc, K, kn, kc, h1, h2, h3⟩ := h
  exact ⟨_, h1, h2, ⟨S, sn, sc, K, kn, kc, rfl, h3 w' (below_then hw h2) (fun _ _ _ => rfl)⟩, fun W a b => ⟨S, sn, sc, K, kn, kc, rfl, h3 W a b⟩⟩
section
variable {w0 w : World} {AV : Array Value} {D : Dk}
theorem vFlushI (v : DkVal AV w0 D) (hw : Below w0.heap.size w0 w) : Calls Try.prog 12 #[.agg AV] w (RetDvI w0 w (dkFlush D) (dkE D)) := by
  obtain ⟨S, sn, sc, K, kn, kc, rfl, r⟩ := v; exact (dskFlushI_any S sn sc K kn kc D w0 w r hw).mono fun _ _ h => retDvI_of hw h
theorem vRFlushI (v : DkVal AV w0 D) (hw : Below w0.heap.size w0 w) : Calls Try.prog 20 #[.agg AV] w (RetDvI w0 w (dkFlush D) (dkE D)) := by
  obtain ⟨S, sn, sc, K, kn, kc, rfl, r⟩ := v; exact (ref_FlushI_any S sn sc K kn kc D w0 w r hw).mono fun _ _ h => retDvI_of hw h
theorem vCrashI (v : DkVal AV w0 D) (hw : Below w0.heap.size w0 w) (A : Option Addr) (n c : Nat) (bs : List Bool) (hb : RdBo w A n c bs) : Calls Try.prog 13 #[.agg AV, .slice A n c] w (RetDvI w0 w (dkCrash D bs) (dkE D)) := by
  obtain ⟨S, sn, sc, K, kn, kc, rfl, r⟩ := v; exact (dskCrashI_any S sn sc K kn kc D A n c bs w0 w r hw hb).mono fun _ _ h => retDvI_of hw h
theorem vRCrashI (v : DkVal AV w0 D) (hw : Below w0.heap.size w0 w) (A : Option Addr) (n c : Nat) (bs : List Bool) (hb : RdBo w A n c bs) : Calls Try.prog 21 #[.agg AV, .slice A n c] w (RetDvI w0 w (dkCrash D bs) (dkE D)) := by
  obtain ⟨S, sn, sc, K, kn, kc, rfl, r⟩ := v; exact (ref_CrashI_any S sn sc K kn kc D A n c bs w0 w r hw hb).mono fun _ _ h => retDvI_of hw h
theorem vTamperI (v : DkVal AV w0 D) (hw : Below w0.heap.size w0 w) (a p : Int) (u : UInt8) (ha : -9223372036854775808 ≤ a ∧ a ≤ 9223372036854775807) (hp : -9223372036854775808 ≤ p ∧ p ≤ 9223372036854775807) : Calls Try.prog 22 #[.agg AV, .int .i64 a, .int .i64 p, .int .u8 (u.toNat : Int)] w (RetDvI w0 w (dkTamper D a p u) (dkTamperE D a p)) := by
  obtain ⟨S, sn, sc, K, kn, kc, rfl, r⟩ := v; exact (dskTamperI_any S sn sc K kn kc D a p u w0 w r hw ha hp).mono fun _ _ h => retDvI_of hw h
theorem vRTamperI (v : DkVal AV w0 D) (hw : Below w0.heap.size w0 w) (a p : Int) (u : UInt8) (ha : -9223372036854775808 ≤ a ∧ a ≤ 9223372036854775807) (hp : -9223372036854775808 ≤ p ∧ p ≤ 9223372036854775807) : Calls Try.prog 23 #[.agg AV, .int .i64 a, .int .i64 p, .int .u8 (u.toNat : Int)] w (RetDvI w0 w (dkTamper D a p u) (dkTamperE D a p)) := by
  obtain ⟨S, sn, sc, K, kn, kc, rfl, r⟩ := v; exact (ref_TamperI_any S sn sc K kn kc D a p u w0 w r hw ha hp).mono fun _ _ h => retDvI_of hw h
theorem vRRead (v : DkVal AV w D) (a : Int) (ha : -9223372036854775808 ≤ a ∧ a ≤ 9223372036854775807) : Calls Try.prog 16 #[.agg AV, .int .i64 a] w (RetRE w (dkRead D a) (dkAsk D a)) := by
  obtain ⟨S, sn, sc, K, kn, kc, rfl, r⟩ := v; exact refDskRead_any S sn sc K kn kc D a w r ha
theorem vRWrite (v : DkVal AV w D) (a : Int) (B : Option Addr) (m d : Nat) (ys : List UInt8) (ha : -9223372036854775808 ≤ a ∧ a ≤ 9223372036854775807) (hd : RdB w B m d ys) : Calls Try.prog 19 #[.agg AV, .int .i64 a, .slice B m d] w (RetDv w (dkWrite D a ys) (dkWriteE D a ys)) := by
  obtain ⟨S, sn, sc, K, kn, kc, rfl, r⟩ := v; exact (ref_Write_any S sn sc K kn kc D a B m d ys w r ha hd).mono fun _ _ h => retDv_of h
theorem vRNew (n : Int) (w : World) (hn : -9223372036854775808 ≤ n ∧ n ≤ 9223372036854775807) : Calls Try.prog 25 #[.int .i64 n] w (RetDv w (dkNew n) (dkNewE n)) := (ref_New_any n w hn).mono fun _ _ h => retDv_of h
end
theorem set_agree {w6 w7 : World} {g : Nat} {cs : Array Value} (hg : g < w6.heap.size) : ∀ j, w6.heap.size ≤ j → j < w7.heap.size → (w7.setRow g cs).heap[j]? = w7.heap[j]? := fun j h1 _ => setRow_other w7 g j cs (by omega)
theorem set_agree2 {w6 w7 W8 w9 : World} (h : ∀ j, w6.heap.size ≤ j → j < w7.heap.size → W8.heap[j]? = w7.heap[j]?) (hb : Below W8.heap.size W8 w9) (hz : w7.heap.size ≤ W8.heap.size) {g : Nat} {cs : Array Value} (hg : g < w6.heap.size) : ∀ j, w6.heap.size ≤ j → j < w7.heap.size → (w9.setRow g cs).heap[j]? = w7.heap[j]? := fun j h1 h2 =>
  (setRow_other w9 g j cs (by omega)).trans ((hb.block j (by omega)).trans (h j h1 h2))
theorem dk_cells2 {w : World} {h : Nat} {BV AV : Array Value} {T : TypeId} {D : Dk} (hrow : w.heap[h]? = some (.cells BV T (0, 0))) (hB : BV.size = 2) (v : DkVal AV w D) : (storeCells ⟨h, 0, none⟩ AV.toList).run Try.prog w = .ok () (w.setRow h AV) := by
  obtain ⟨S, sn, sc, K, kn, kc, rfl, r⟩ := v
  have := run_storeCells_at Try.prog h 0 T [.slice S sn sc, .slice K kn kc] 0 BV w hrow (by simp; omega) (by simp [Value.oneCell'])
  refine this.trans ?_
  congr 2
  rw [List.drop_eq_nil_of_le (by simp; omega)]
  rfl
theorem dskTells_early (S : Option Addr) (sn sc : Nat) (K : Option Addr) (kn kc : Nat) (D : Dk) (a p : Int) (B : Option Addr) (m d : Nat) (ys : List UInt8) (u : UInt8) (A : Option Addr) (n c : Nat) (bs : List Bool) (w : World) (hr : RdDk w S sn sc K kn kc D) (ha : -9223372036854775808 ≤ a ∧ a ≤ 9223372036854775807) (hp : -9223372036854775808 ≤ p ∧ p ≤ 9223372036854775807) (hd : RdB w B m d ys) (hb : RdBo w A n c bs) (h : dkFew D = false ∨ (dkFew D = true ∧ 600 < m) ∨ (dkFew D = true ∧ m ≤ 600 ∧ 700 < n)) :
    Calls Try.prog 4 #[.agg #[.slice S sn sc, .slice K kn kc], .int .i64 a, .int .i64 p, .slice B m d, .int .u8 (u.toNat : Int), .slice A n c] w (RetV w (.bool true)) := by
  have hn63 := hb.n63
  have hm63 := hd.n63
  obtain ⟨AV, hAV⟩ : ∃ AV : Array Value, AV = #[.slice S sn sc, .slice K kn kc] := ⟨_, rfl⟩
  have v : DkVal AV w D := ⟨S, sn, sc, K, kn, kc, hAV, hr⟩
  rw [← hAV]
  obtain ⟨V, hV⟩ : ∃ V, V = w.alloc (.cells AV 25) := ⟨_, rfl⟩
  have bV : Below w.heap.size w V := by rw [hV]; exact (below_self w).alloc (Nat.le_refl _) _
  have q : Hid (DkV V w.heap.size AV D) := Lib.hid ⟨by rw [hV]; exact drw_at _ rfl, v.below bV⟩
  have HV := Lib.hid hV
  have C1 := Lib.hid (fun W (v : DkVal AV W D) => vFew v)
  clear hV hAV v
  rcases h with h | ⟨h1, h2⟩ | ⟨h1, h2, h3⟩
  · rw [h] at C1
    clear h
    go_enter Try.func4, Try.ntmps4
    go_wp2_with (rw [← HV.out]; refine dk_load rfl _ rfl rfl q.out ?_)
    refine (C1.out V q.out.2).mono ?_
    rintro e w1 ⟨rfl, hb1⟩
    have q := Lib.hid (q.out.up hb1)
    have B1 := below_then bV hb1
    go_wp2_with fail
    refine (heads05 _).mono ?_
    rintro e w9 ⟨rfl, hb9⟩
    go_wp2
    go_ret
    exact ⟨rfl, below_then B1 hb9⟩
  · rw [h1] at C1
    have d1 : decide ((600 : Int) < (m : Int)) = true := decide_eq_true (by omega)
    clear h1 h2
    go_enter Try.func4, Try.ntmps4
    go_wp2_with (rw [← HV.out]; refine dk_load rfl _ rfl rfl q.out ?_)
    refine (C1.out V q.out.2).mono ?_
    rintro e w1 ⟨rfl, hb1⟩
    have q := Lib.hid (q.out.up hb1)
    have B1 := below_then bV hb1
    go_wp2_with fail
    refine (heads05 _).mono ?_
    rintro e w9 ⟨rfl, hb9⟩
    go_wp2
    go_ret
    exact ⟨rfl, below_then B1 hb9⟩
  · rw [h1] at C1
    have d1 : decide ((600 : Int) < (m : Int)) = false := decide_eq_false (by omega)
    have d2 : decide ((700 : Int) < (n : Int)) = true := decide_eq_true (by omega)
    clear h1 h2 h3
    go_enter Try.func4, Try.ntmps4
    go_wp2_with (rw [← HV.out]; refine dk_load rfl _ rfl rfl q.out ?_)
    refine (C1.out V q.out.2).mono ?_
    rintro e w1 ⟨rfl, hb1⟩
    have q := Lib.hid (q.out.up hb1)
    have B1 := below_then bV hb1
    go_wp2_with fail
    refine (heads05 _).mono ?_
    rintro e w9 ⟨rfl, hb9⟩
    go_wp2
    go_ret
    exact ⟨rfl, below_then B1 hb9⟩
theorem dskTells_main (S : Option Addr) (sn sc : Nat) (K : Option Addr) (kn kc : Nat) (D : Dk) (a p : Int) (B : Option Addr) (m d : Nat) (ys : List UInt8) (u : UInt8) (A : Option Addr) (n c : Nat) (bs : List Bool) (w : World) (hr : RdDk w S sn sc K kn kc D) (ha : -9223372036854775808 ≤ a ∧ a ≤ 9223372036854775807) (hp : -9223372036854775808 ≤ p ∧ p ≤ 9223372036854775807) (hd : RdB w B m d ys) (hb : RdBo w A n c bs) (h1 : dkFew D = true) (h2 : m ≤ 600) (h3 : n ≤ 700) :
    Calls Try.prog 4 #[.agg #[.slice S sn sc, .slice K kn kc], .int .i64 a, .int .i64 p, .slice B m d, .int .u8 (u.toNat : Int), .slice A n c] w (RetV w (.bool true)) := by
  have hn63 := hb.n63
  have hm63 := hd.n63
  obtain ⟨AV, hAV⟩ : ∃ AV : Array Value, AV = #[.slice S sn sc, .slice K kn kc] := ⟨_, rfl⟩
  have v : DkVal AV w D := ⟨S, sn, sc, K, kn, kc, hAV, hr⟩
  rw [← hAV]
  obtain ⟨V, hV⟩ : ∃ V, V = w.alloc (.cells AV 25) := ⟨_, rfl⟩
  have bV : Below w.heap.size w V := by rw [hV]; exact (below_self w).alloc (Nat.le_refl _) _
  have q : Hid (DkV V w.heap.size AV D) := Lib.hid ⟨by rw [hV]; exact drw_at _ rfl, v.below bV⟩
  have HV := Lib.hid hV
  have C1 := Lib.hid (fun W (v : DkVal AV W D) => vFew v)
  rw [h1] at C1
  have d1 : decide ((600 : Int) < (m : Int)) = false := decide_eq_false (by omega)
  have d2 : decide ((700 : Int) < (n : Int)) = false := decide_eq_false (by omega)
  have V0 := Lib.hid v
  obtain ⟨Ea, hEa⟩ : ∃ x, dkAsk D a = x := ⟨_, rfl⟩
  obtain ⟨Ra, hRa⟩ : ∃ x, dkRead D a = x := ⟨_, rfl⟩
  obtain ⟨Ew, hEw⟩ : ∃ x, dkWriteE D a ys = x := ⟨_, rfl⟩
  obtain ⟨Dw, hDw⟩ : ∃ x, dkWrite D a ys = x := ⟨_, rfl⟩
  obtain ⟨Ee, hEe⟩ : ∃ x, dkE D = x := ⟨_, rfl⟩
  obtain ⟨Df, hDf⟩ : ∃ x, dkFlush D = x := ⟨_, rfl⟩
  obtain ⟨Dc, hDc⟩ : ∃ x, dkCrash D bs = x := ⟨_, rfl⟩
  obtain ⟨Et, hEt⟩ : ∃ x, dkTamperE D a p = x := ⟨_, rfl⟩
  obtain ⟨Dt, hDt⟩ : ∃ x, dkTamper D a p u = x := ⟨_, rfl⟩
  obtain ⟨En, hEn⟩ : ∃ x, dkNewE a = x := ⟨_, rfl⟩
  obtain ⟨Dn, hDn⟩ : ∃ x, dkNew a = x := ⟨_, rfl⟩
  obtain ⟨T, hT⟩ : ∃ x, dkOk D = x := ⟨_, rfl⟩
  have CR := Lib.hid (fun W (v : DkVal AV W D) => vRead v a ha)
  rw [hEa, hRa] at CR
  have CRr := Lib.hid (fun W (v : DkVal AV W D) => vRRead v a ha)
  rw [hEa, hRa] at CRr
  have CW := Lib.hid (fun W (v : DkVal AV W D) (hd : RdB W B m d ys) => vWrite v a B m d ys ha hd)
  rw [hEw, hDw] at CW
  have CWr := Lib.hid (fun W (v : DkVal AV W D) (hd : RdB W B m d ys) => vRWrite v a B m d ys ha hd)
  rw [hEw, hDw] at CWr
  have CF := Lib.hid (fun W (hw : Below w.heap.size w W) => vFlushI v hw)
  rw [hEe, hDf] at CF
  have CFr := Lib.hid (fun W (hw : Below w.heap.size w W) => vRFlushI v hw)
  rw [hEe, hDf] at CFr
  have CC := Lib.hid (fun W (hw : Below w.heap.size w W) => vCrashI v hw A n c bs (hb.below hw))
  rw [hEe, hDc] at CC
  have CCr := Lib.hid (fun W (hw : Below w.heap.size w W) => vRCrashI v hw A n c bs (hb.below hw))
  rw [hEe, hDc] at CCr
  have CT := Lib.hid (fun W (hw : Below w.heap.size w W) => vTamperI v hw a p u ha hp)
  rw [hEt, hDt] at CT
  have CTr := Lib.hid (fun W (hw : Below w.heap.size w W) => vRTamperI v hw a p u ha hp)
  rw [hEt, hDt] at CTr
  have CN := Lib.hid (fun W => vNew a W ha)
  rw [hEn, hDn] at CN
  have CNr := Lib.hid (fun W => vRNew a W ha)
  rw [hEn, hDn] at CNr
  have CK := Lib.hid (fun W (v : DkVal AV W D) => vCheck v)
  rw [hT] at CK
  have CKr := Lib.hid (fun W (v : DkVal AV W D) => vRefCheck v)
  rw [hT] at CKr
  have CS := Lib.hid (fun G AV BV W (v : DkVal AV W G) (u : DkVal BV W G) => vSame v u)
  have na : (Ea != Ea) = false := by simp
  have nw : (Ew != Ew) = false := by simp
  have ne : (Ee != Ee) = false := by simp
  have nt : (Et == Et) = true := by simp
  have nn : (En == En) = true := by simp
  have nT : (T == T) = true := by simp
  clear hV hAV v h1 h2 h3 hEa hRa hEw hDw hEe hDf hDc hEt hDt hEn hDn hT
  go_enter Try.func4, Try.ntmps4
  go_wp2_with (rw [← HV.out]; refine dk_load rfl _ rfl rfl q.out ?_)
  refine (C1.out V q.out.2).mono ?_
  rintro e w1 ⟨rfl, hb1⟩
  have q := Lib.hid (q.out.up hb1)
  have B1 := below_then bV hb1
  go_wp2_with (refine dk_load rfl _ rfl rfl q.out ?_)
  refine (CR.out w1 q.out.2).mono ?_
  rintro e w2 ⟨A2, n2, c2, rfl, o2, hb2⟩
  have q := Lib.hid (q.out.up hb2)
  have B2 := below_then B1 hb2
  have r2 := o2.rd
  clear o2
  go_wp2_with (refine dk_load rfl _ rfl rfl q.out ?_)
  refine (CRr.out w2 q.out.2).mono ?_
  rintro e w3 ⟨A3, n3, c3, rfl, r3, hb3⟩
  have q := Lib.hid (q.out.up hb3)
  have B3 := below_then B2 hb3
  have r2 := r2.below hb3
  go_wp2_with fail
  have hh := bytes_any A2 A3 n2 c2 n3 c3 Ra Ra w3 r2 r3
  rw [decide_eq_true rfl] at hh
  refine hh.mono ?_
  clear hh
  rintro e u1 ⟨rfl, rfl⟩
  go_wp2_with (refine dk_load rfl _ rfl rfl q.out ?_)
  refine (CW.out _ q.out.2 (hd.below B3)).mono ?_
  rintro e w4 ⟨A4, rfl, v4, hb4⟩
  have q := Lib.hid (q.out.up hb4)
  have hgc : w.heap.size < w4.heap.size := q.out.lt
  have B4 := below_then B3 hb4
  go_wp2_with (first | (refine dk_fresh rfl _ _ rfl rfl rfl w4 rfl rfl v4 ?_; intro X4 qc x4; have q := Lib.hid (q.out.up x4)) | (refine dk_load rfl _ rfl rfl q.out ?_))
  have B4 := below_then B4 x4
  have lc := qc.out.lt
  refine (CWr.out X4 q.out.2 (hd.below B4)).mono ?_
  rintro e w5 ⟨A5, rfl, v5, hb5⟩
  have q := Lib.hid (q.out.up hb5)
  have qc := Lib.hid (qc.out.up hb5)
  have B5 := below_then B4 hb5
  go_wp2_with (first | (refine dk_fresh rfl _ _ rfl rfl rfl w5 rfl rfl v5 ?_; intro X5 qx x5; have qc := Lib.hid (qc.out.up x5)) | (refine dk_load rfl _ rfl rfl qc.out ?_) | (refine dk_load rfl _ rfl rfl qx.out ?_))
  have q := Lib.hid (q.out.up x5)
  have B5 := below_then B5 x5
  have lx := qx.out.lt
  have hgx : w4.heap.size < w5.heap.size := by have := hb5.size; omega
  refine (CS.out Dw A4 A5 X5 qc.out.2 qx.out.2).mono ?_
  rintro e w6 ⟨rfl, hb6⟩
  have q := Lib.hid (q.out.up hb6)
  have qc := Lib.hid (qc.out.up hb6)
  have qx := Lib.hid (qx.out.up hb6)
  have B6 := below_then B5 hb6
  clear r2 r3 v4 v5 hb1 hb2 hb3 hb4 hb5 hb6 x4 x5 B1 B2 B3 B4 B5 bV lc lx
  have lc1 := qc.out.lt
  have lx1 := qx.out.lt
  have sx1 := qx.out.2.size
  go_wp2_with (refine dk_load rfl _ rfl rfl q.out ?_)
  refine (CF.out w6 B6).mono ?_
  rintro e wa1 ⟨Aa1, rfl, hba1, va1, hIa1⟩
  have q := Lib.hid (q.out.up hba1)
  have qc := Lib.hid (qc.out.up hba1)
  have qx := Lib.hid (qx.out.up hba1)
  have Ba1 := below_then B6 hba1
  obtain ⟨Wb1, hWb⟩ : ∃ W, W = wa1.setRow w4.heap.size Aa1 := ⟨_, rfl⟩
  have hst : (storeCells ⟨w4.heap.size, 0, none⟩ Aa1.toList).run Try.prog wa1 = .ok () Wb1 := by rw [hWb]; exact dk_cells2 qc.out.1 qc.out.2.size va1
  have hz2 : Aa1.size = 2 := va1.size
  have Bb1 : Below w.heap.size w Wb1 := by rw [hWb]; exact below_setRow Ba1 (Nat.le_of_lt hgc) Aa1
  have aga1 : ∀ j, w6.heap.size ≤ j → j < wa1.heap.size → Wb1.heap[j]? = wa1.heap[j]? := by rw [hWb]; exact set_agree lc1
  have rc1 : Wb1.heap[w4.heap.size]? = some (.cells Aa1 25 (0, 0)) := by rw [hWb]; exact setRow_heap _ _ _ Aa1 _ _ qc.out.1
  have rd1 : Hid (DkV Wb1 w.heap.size AV D) := Lib.hid ⟨by rw [hWb]; exact (setRow_other wa1 _ _ Aa1 (by omega)).trans q.out.1, V0.out.below Bb1⟩
  have rx1 : Wb1.heap[w5.heap.size]? = some (.cells A5 25 (0, 0)) := by rw [hWb]; exact (setRow_other wa1 _ _ Aa1 (by omega)).trans qx.out.1
  have zab1 : wa1.heap.size ≤ Wb1.heap.size := by rw [hWb]; simp
  have lxb1 : w5.heap.size < Wb1.heap.size := by have := hba1.size; omega
  have HIa1 := Lib.hid hIa1
  have AGa1 := Lib.hid aga1
  have RC1 := Lib.hid rc1
  have RX1 := Lib.hid rx1
  clear hWb q qc qx hIa1 aga1 rc1 rx1
  go_wp2_with (refine dk_load rfl _ rfl rfl rd1.out ?_)
  clear hst hz2
  refine (CFr.out Wb1 Bb1).mono ?_
  rintro e wc1 ⟨Ac1, rfl, hbc1, vc1, hIc1⟩
  have Bc1 := below_then Bb1 hbc1
  obtain ⟨Wd1, hWd⟩ : ∃ W, W = wc1.setRow w5.heap.size Ac1 := ⟨_, rfl⟩
  have hst : (storeCells ⟨w5.heap.size, 0, none⟩ Ac1.toList).run Try.prog wc1 = .ok () Wd1 := by rw [hWd]; exact dk_cells2 (drw_up RX1.out hbc1) sx1 vc1
  have hz2 : Ac1.size = 2 := vc1.size
  have Bd1 : Below w.heap.size w Wd1 := by rw [hWd]; exact below_setRow Bc1 (by omega) Ac1
  have qc : Hid (DkV Wd1 w4.heap.size Aa1 Df) := Lib.hid ⟨by rw [hWd]; exact (setRow_other wc1 _ _ Ac1 (by omega)).trans (drw_up RC1.out hbc1), HIa1.out Wd1 Bd1 (by rw [hWd]; exact set_agree2 AGa1.out hbc1 zab1 lx1)⟩
  have qx : Hid (DkV Wd1 w5.heap.size Ac1 Df) := Lib.hid ⟨by rw [hWd]; exact setRow_heap _ _ _ Ac1 _ _ (drw_up RX1.out hbc1), hIc1 Wd1 Bd1 (by rw [hWd]; exact set_agree lxb1)⟩
  have q : Hid (DkV Wd1 w.heap.size AV D) := Lib.hid ⟨by rw [hWd]; exact (setRow_other wc1 _ _ Ac1 (by omega)).trans (drw_up rd1.out.1 hbc1), V0.out.below Bd1⟩
  clear hWd hIc1 va1 vc1 hba1 hbc1 Ba1 Bb1 Bc1 rd1 zab1 lxb1 lc1 lx1 sx1
  go_wp2_with (first | (refine dk_load rfl _ rfl rfl qc.out ?_) | (refine dk_load rfl _ rfl rfl qx.out ?_))
  clear hst hz2
  refine (CS.out Df Aa1 Ac1 Wd1 qc.out.2 qx.out.2).mono ?_
  rintro e we1 ⟨rfl, hbe⟩
  have q := Lib.hid (q.out.up hbe)
  have qc := Lib.hid (qc.out.up hbe)
  have qx := Lib.hid (qx.out.up hbe)
  have Be1 := below_then Bd1 hbe
  clear hbe Bd1
  have lc2 := qc.out.lt
  have lx2 := qx.out.lt
  have sx2 := qx.out.2.size
  go_wp2_with (refine dk_load rfl _ rfl rfl q.out ?_)
  refine (CC.out we1 Be1).mono ?_
  rintro e wa2 ⟨Aa2, rfl, hba2, va2, hIa2⟩
  have q := Lib.hid (q.out.up hba2)
  have qc := Lib.hid (qc.out.up hba2)
  have qx := Lib.hid (qx.out.up hba2)
  have Ba2 := below_then Be1 hba2
  obtain ⟨Wb2, hWb⟩ : ∃ W, W = wa2.setRow w4.heap.size Aa2 := ⟨_, rfl⟩
  have hst : (storeCells ⟨w4.heap.size, 0, none⟩ Aa2.toList).run Try.prog wa2 = .ok () Wb2 := by rw [hWb]; exact dk_cells2 qc.out.1 qc.out.2.size va2
  have hz2 : Aa2.size = 2 := va2.size
  have Bb2 : Below w.heap.size w Wb2 := by rw [hWb]; exact below_setRow Ba2 (Nat.le_of_lt hgc) Aa2
  have aga2 : ∀ j, we1.heap.size ≤ j → j < wa2.heap.size → Wb2.heap[j]? = wa2.heap[j]? := by rw [hWb]; exact set_agree lc2
  have rc2 : Wb2.heap[w4.heap.size]? = some (.cells Aa2 25 (0, 0)) := by rw [hWb]; exact setRow_heap _ _ _ Aa2 _ _ qc.out.1
  have rd2 : Hid (DkV Wb2 w.heap.size AV D) := Lib.hid ⟨by rw [hWb]; exact (setRow_other wa2 _ _ Aa2 (by omega)).trans q.out.1, V0.out.below Bb2⟩
  have rx2 : Wb2.heap[w5.heap.size]? = some (.cells Ac1 25 (0, 0)) := by rw [hWb]; exact (setRow_other wa2 _ _ Aa2 (by omega)).trans qx.out.1
  have zab2 : wa2.heap.size ≤ Wb2.heap.size := by rw [hWb]; simp
  have lxb2 : w5.heap.size < Wb2.heap.size := by have := hba2.size; omega
  have HIa2 := Lib.hid hIa2
  have AGa2 := Lib.hid aga2
  have RC2 := Lib.hid rc2
  have RX2 := Lib.hid rx2
  clear hWb q qc qx hIa2 aga2 rc2 rx2
  go_wp2_with (refine dk_load rfl _ rfl rfl rd2.out ?_)
  clear hst hz2
  refine (CCr.out Wb2 Bb2).mono ?_
  rintro e wc2 ⟨Ac2, rfl, hbc2, vc2, hIc2⟩
  have Bc2 := below_then Bb2 hbc2
  obtain ⟨Wd2, hWd⟩ : ∃ W, W = wc2.setRow w5.heap.size Ac2 := ⟨_, rfl⟩
  have hst : (storeCells ⟨w5.heap.size, 0, none⟩ Ac2.toList).run Try.prog wc2 = .ok () Wd2 := by rw [hWd]; exact dk_cells2 (drw_up RX2.out hbc2) sx2 vc2
  have hz2 : Ac2.size = 2 := vc2.size
  have Bd2 : Below w.heap.size w Wd2 := by rw [hWd]; exact below_setRow Bc2 (by omega) Ac2
  have qc : Hid (DkV Wd2 w4.heap.size Aa2 Dc) := Lib.hid ⟨by rw [hWd]; exact (setRow_other wc2 _ _ Ac2 (by omega)).trans (drw_up RC2.out hbc2), HIa2.out Wd2 Bd2 (by rw [hWd]; exact set_agree2 AGa2.out hbc2 zab2 lx2)⟩
  have qx : Hid (DkV Wd2 w5.heap.size Ac2 Dc) := Lib.hid ⟨by rw [hWd]; exact setRow_heap _ _ _ Ac2 _ _ (drw_up RX2.out hbc2), hIc2 Wd2 Bd2 (by rw [hWd]; exact set_agree lxb2)⟩
  have q : Hid (DkV Wd2 w.heap.size AV D) := Lib.hid ⟨by rw [hWd]; exact (setRow_other wc2 _ _ Ac2 (by omega)).trans (drw_up rd2.out.1 hbc2), V0.out.below Bd2⟩
  clear hWd hIc2 va2 vc2 hba2 hbc2 Ba2 Bb2 Bc2 rd2 zab2 lxb2 lc2 lx2 sx2
  go_wp2_with (first | (refine dk_load rfl _ rfl rfl qc.out ?_) | (refine dk_load rfl _ rfl rfl qx.out ?_))
  clear hst hz2
  refine (CS.out Dc Aa2 Ac2 Wd2 qc.out.2 qx.out.2).mono ?_
  rintro e we2 ⟨rfl, hbe⟩
  have q := Lib.hid (q.out.up hbe)
  have qc := Lib.hid (qc.out.up hbe)
  have qx := Lib.hid (qx.out.up hbe)
  have Be2 := below_then Bd2 hbe
  clear hbe Bd2
  have lc3 := qc.out.lt
  have lx3 := qx.out.lt
  have sx3 := qx.out.2.size
  go_wp2_with (refine dk_load rfl _ rfl rfl q.out ?_)
  refine (CT.out we2 Be2).mono ?_
  rintro e wa3 ⟨Aa3, rfl, hba3, va3, hIa3⟩
  have q := Lib.hid (q.out.up hba3)
  have qc := Lib.hid (qc.out.up hba3)
  have qx := Lib.hid (qx.out.up hba3)
  have Ba3 := below_then Be2 hba3
  obtain ⟨Wb3, hWb⟩ : ∃ W, W = wa3.setRow w4.heap.size Aa3 := ⟨_, rfl⟩
  have hst : (storeCells ⟨w4.heap.size, 0, none⟩ Aa3.toList).run Try.prog wa3 = .ok () Wb3 := by rw [hWb]; exact dk_cells2 qc.out.1 qc.out.2.size va3
  have hz2 : Aa3.size = 2 := va3.size
  have Bb3 : Below w.heap.size w Wb3 := by rw [hWb]; exact below_setRow Ba3 (Nat.le_of_lt hgc) Aa3
  have aga3 : ∀ j, we2.heap.size ≤ j → j < wa3.heap.size → Wb3.heap[j]? = wa3.heap[j]? := by rw [hWb]; exact set_agree lc3
  have rc3 : Wb3.heap[w4.heap.size]? = some (.cells Aa3 25 (0, 0)) := by rw [hWb]; exact setRow_heap _ _ _ Aa3 _ _ qc.out.1
  have rd3 : Hid (DkV Wb3 w.heap.size AV D) := Lib.hid ⟨by rw [hWb]; exact (setRow_other wa3 _ _ Aa3 (by omega)).trans q.out.1, V0.out.below Bb3⟩
  have rx3 : Wb3.heap[w5.heap.size]? = some (.cells Ac2 25 (0, 0)) := by rw [hWb]; exact (setRow_other wa3 _ _ Aa3 (by omega)).trans qx.out.1
  have zab3 : wa3.heap.size ≤ Wb3.heap.size := by rw [hWb]; simp
  have lxb3 : w5.heap.size < Wb3.heap.size := by have := hba3.size; omega
  have HIa3 := Lib.hid hIa3
  have AGa3 := Lib.hid aga3
  have RC3 := Lib.hid rc3
  have RX3 := Lib.hid rx3
  clear hWb q qc qx hIa3 aga3 rc3 rx3
  go_wp2_with (refine dk_load rfl _ rfl rfl rd3.out ?_)
  clear hst hz2
  refine (CTr.out Wb3 Bb3).mono ?_
  rintro e wc3 ⟨Ac3, rfl, hbc3, vc3, hIc3⟩
  have Bc3 := below_then Bb3 hbc3
  obtain ⟨Wd3, hWd⟩ : ∃ W, W = wc3.setRow w5.heap.size Ac3 := ⟨_, rfl⟩
  have hst : (storeCells ⟨w5.heap.size, 0, none⟩ Ac3.toList).run Try.prog wc3 = .ok () Wd3 := by rw [hWd]; exact dk_cells2 (drw_up RX3.out hbc3) sx3 vc3
  have hz2 : Ac3.size = 2 := vc3.size
  have Bd3 : Below w.heap.size w Wd3 := by rw [hWd]; exact below_setRow Bc3 (by omega) Ac3
  have qc : Hid (DkV Wd3 w4.heap.size Aa3 Dt) := Lib.hid ⟨by rw [hWd]; exact (setRow_other wc3 _ _ Ac3 (by omega)).trans (drw_up RC3.out hbc3), HIa3.out Wd3 Bd3 (by rw [hWd]; exact set_agree2 AGa3.out hbc3 zab3 lx3)⟩
  have qx : Hid (DkV Wd3 w5.heap.size Ac3 Dt) := Lib.hid ⟨by rw [hWd]; exact setRow_heap _ _ _ Ac3 _ _ (drw_up RX3.out hbc3), hIc3 Wd3 Bd3 (by rw [hWd]; exact set_agree lxb3)⟩
  have q : Hid (DkV Wd3 w.heap.size AV D) := Lib.hid ⟨by rw [hWd]; exact (setRow_other wc3 _ _ Ac3 (by omega)).trans (drw_up rd3.out.1 hbc3), V0.out.below Bd3⟩
  clear hWd hIc3 va3 vc3 hba3 hbc3 Ba3 Bb3 Bc3 rd3 zab3 lxb3 lc3 lx3 sx3
  go_wp2_with fail
  clear hst hz2
  refine (CN.out Wd3).mono ?_
  rintro e w7 ⟨A7, rfl, v7, hb7⟩
  have q := Lib.hid (q.out.up hb7)
  have qc := Lib.hid (qc.out.up hb7)
  have qx := Lib.hid (qx.out.up hb7)
  have B7 := below_then Bd3 hb7
  go_wp2_with (refine dk_fresh rfl _ _ rfl rfl rfl w7 rfl rfl v7 ?_; intro X7 qp x7)
  have q := Lib.hid (q.out.up x7)
  have qc := Lib.hid (qc.out.up x7)
  have qx := Lib.hid (qx.out.up x7)
  have B7 := below_then B7 x7
  refine (CNr.out X7).mono ?_
  rintro e w8 ⟨A8, rfl, v8, hb8⟩
  have q := Lib.hid (q.out.up hb8)
  have qc := Lib.hid (qc.out.up hb8)
  have qx := Lib.hid (qx.out.up hb8)
  have qp := Lib.hid (qp.out.up hb8)
  have B8 := below_then B7 hb8
  go_wp2_with (refine dk_fresh rfl _ _ rfl rfl rfl w8 rfl rfl v8 ?_; intro X8 qq x8)
  have q := Lib.hid (q.out.up x8)
  have qc := Lib.hid (qc.out.up x8)
  have qx := Lib.hid (qx.out.up x8)
  have qp := Lib.hid (qp.out.up x8)
  have B8 := below_then B8 x8
  go_wp2_with fail
  refine wp_region_seg (S := fun w' => Below X8.heap.size X8 w') 0 #[true, true, true, true, true, true, true, true, true, true, true, true, true, true, true, true, true, true, true, true, true, true, true, true, true, true, true, true, true] [(0, true), (1, true), (2, false), (3, true), (4, true), (5, true), (6, true), (7, true), (8, true), (9, true), (10, true), (11, false), (12, true), (13, true), (14, true), (15, true), (16, true), (17, true), (18, true), (19, true), (21, true), (20, false), (22, false), (23, true), (24, true), (25, true), (26, false), (27, true), (28, true)] (by kernel_rfl) (by kernel_rfl) (fun _ _ d _ _ h => by first | (cases d <;> exact h) | cases h.1) ((Below.refl X8.heap.size X8).drew) ?_
  have HB := (Below.refl X8.heap.size X8).drew
  refine seg_take (v := .agg Aa3) rfl (Or.inl ⟨by rfl, fun w' hw' => ?_⟩) ?_
  focus (exact dex_load rfl rfl (dk_run w' qc.out hw'))
  try simp only [Act.put, List.setIfInBounds_toArray, List.set_cons_zero, List.set_cons_succ]
  refine seg_take (v := .agg Ac3) rfl (Or.inl ⟨by rfl, fun w' hw' => ?_⟩) ?_
  focus (exact dex_load rfl rfl (dk_run w' qx.out hw'))
  try simp only [Act.put, List.setIfInBounds_toArray, List.set_cons_zero, List.set_cons_succ]
  refine seg_run rfl (fun K hK => ?_)
  go_simp
  refine (CS.out Dt Aa3 Ac3 _ (qc.out.up HB).2 (qx.out.up HB).2).mono ?_
  rintro e_ wA ⟨rfl, hbA⟩
  have HB := below_then HB hbA
  refine hK.out _ _ (HB) ?_
  clear hK
  try simp only [Act.put, List.setIfInBounds_toArray, List.set_cons_zero, List.set_cons_succ]
  iterate 1 (refine seg_take (v := ?_) rfl (Or.inl ⟨by rfl, ?_⟩) ?_; rotate_left; (focus (intro w' hw'; go_simp <;> with_reducible rfl)); try simp only [Act.put, List.setIfInBounds_toArray, List.set_cons_zero, List.set_cons_succ])
  iterate 3 ((first | refine seg_take (v := undef) rfl (Or.inr ⟨by rfl, rfl⟩) ?_ | (refine seg_take (v := ?_) rfl (Or.inl ⟨by rfl, ?_⟩) ?_; rotate_left; (focus (intro w' hw'; go_simp <;> with_reducible rfl)))); try simp only [Act.put, List.setIfInBounds_toArray, List.set_cons_zero, List.set_cons_succ])
  iterate 2 (refine seg_take (v := ?_) rfl (Or.inl ⟨by rfl, ?_⟩) ?_; rotate_left; (focus (intro w' hw'; go_simp <;> with_reducible rfl)); try simp only [Act.put, List.setIfInBounds_toArray, List.set_cons_zero, List.set_cons_succ])
  refine seg_take (v := .agg A7) rfl (Or.inl ⟨by rfl, fun w' hw' => ?_⟩) ?_
  focus (exact dex_load rfl rfl (dk_run w' qp.out hw'))
  try simp only [Act.put, List.setIfInBounds_toArray, List.set_cons_zero, List.set_cons_succ]
  refine seg_take (v := .agg A8) rfl (Or.inl ⟨by rfl, fun w' hw' => ?_⟩) ?_
  focus (exact dex_load rfl rfl (dk_run w' qq.out hw'))
  try simp only [Act.put, List.setIfInBounds_toArray, List.set_cons_zero, List.set_cons_succ]
  refine seg_run rfl (fun K hK => ?_)
  go_simp
  refine (CS.out Dn A7 A8 _ (qp.out.up HB).2 (qq.out.up HB).2).mono ?_
  rintro e_ wB ⟨rfl, hbB⟩
  have HB := below_then HB hbB
  refine hK.out _ _ (HB) ?_
  clear hK
  try simp only [Act.put, List.setIfInBounds_toArray, List.set_cons_zero, List.set_cons_succ]
  iterate 2 (refine seg_take (v := ?_) rfl (Or.inl ⟨by rfl, ?_⟩) ?_; rotate_left; (focus (intro w' hw'; go_simp <;> with_reducible rfl)); try simp only [Act.put, List.setIfInBounds_toArray, List.set_cons_zero, List.set_cons_succ])
  iterate 3 ((first | refine seg_take (v := undef) rfl (Or.inr ⟨by rfl, rfl⟩) ?_ | (refine seg_take (v := ?_) rfl (Or.inl ⟨by rfl, ?_⟩) ?_; rotate_left; (focus (intro w' hw'; go_simp <;> with_reducible rfl)))); try simp only [Act.put, List.setIfInBounds_toArray, List.set_cons_zero, List.set_cons_succ])
  iterate 2 (refine seg_take (v := ?_) rfl (Or.inl ⟨by rfl, ?_⟩) ?_; rotate_left; (focus (intro w' hw'; go_simp <;> with_reducible rfl)); try simp only [Act.put, List.setIfInBounds_toArray, List.set_cons_zero, List.set_cons_succ])
  refine seg_take (v := .agg AV) rfl (Or.inl ⟨by rfl, fun w' hw' => ?_⟩) ?_
  focus (exact dex_load rfl rfl (dk_run w' q.out hw'))
  try simp only [Act.put, List.setIfInBounds_toArray, List.set_cons_zero, List.set_cons_succ]
  refine seg_take (v := .agg AV) rfl (Or.inl ⟨by rfl, fun w' hw' => ?_⟩) ?_
  focus (exact dex_load rfl rfl (dk_run w' q.out hw'))
  try simp only [Act.put, List.setIfInBounds_toArray, List.set_cons_zero, List.set_cons_succ]
  refine seg_run rfl (fun K hK => ?_)
  go_simp
  refine (CK.out _ (q.out.up HB).2).mono ?_
  rintro e_ wC ⟨rfl, hbC⟩
  have HB := below_then HB hbC
  refine hK.out _ _ (HB) ?_
  clear hK
  try simp only [Act.put, List.setIfInBounds_toArray, List.set_cons_zero, List.set_cons_succ]
  refine seg_run rfl (fun K hK => ?_)
  go_simp
  refine (CKr.out _ (q.out.up HB).2).mono ?_
  rintro e_ wD ⟨rfl, hbD⟩
  have HB := below_then HB hbD
  refine hK.out _ _ (HB) ?_
  clear hK
  try simp only [Act.put, List.setIfInBounds_toArray, List.set_cons_zero, List.set_cons_succ]
  iterate 1 ((first | refine seg_take (v := undef) rfl (Or.inr ⟨by rfl, rfl⟩) ?_ | (refine seg_take (v := ?_) rfl (Or.inl ⟨by rfl, ?_⟩) ?_; rotate_left; (focus (intro w' hw'; go_simp <;> with_reducible rfl)))); try simp only [Act.put, List.setIfInBounds_toArray, List.set_cons_zero, List.set_cons_succ])
  iterate 2 (refine seg_take (v := ?_) rfl (Or.inl ⟨by rfl, ?_⟩) ?_; rotate_left; (focus (intro w' hw'; go_simp <;> with_reducible rfl)); try simp only [Act.put, List.setIfInBounds_toArray, List.set_cons_zero, List.set_cons_succ])
  refine seg_run rfl (fun K hK => ?_)
  go_simp
  refine (heads05 _).mono ?_
  rintro e_ wE ⟨rfl, hbE⟩
  have HB := below_then HB hbE
  refine hK.out _ _ (HB) ?_
  clear hK
  try simp only [Act.put, List.setIfInBounds_toArray, List.set_cons_zero, List.set_cons_succ]
  iterate 2 (refine seg_take (v := ?_) rfl (Or.inl ⟨by rfl, ?_⟩) ?_; rotate_left; (focus (intro w' hw'; go_simp <;> with_reducible rfl)); try simp only [Act.put, List.setIfInBounds_toArray, List.set_cons_zero, List.set_cons_succ])
  refine seg_done (fun _ => ?_)
  refine wpAnyH_done (by kernel_rfl) ?_ _
  go_wp2_with fail
  go_ret
  exact ⟨rfl, below_then B8 HB⟩
theorem dskTells_law (S : Option Addr) (sn sc : Nat) (K : Option Addr) (kn kc : Nat) (D : Dk) (a p : Int) (B : Option Addr) (m d : Nat) (ys : List UInt8) (u : UInt8) (A : Option Addr) (n c : Nat) (bs : List Bool) (w : World) (hr : RdDk w S sn sc K kn kc D) (ha : -9223372036854775808 ≤ a ∧ a ≤ 9223372036854775807) (hp : -9223372036854775808 ≤ p ∧ p ≤ 9223372036854775807) (hd : RdB w B m d ys) (hb : RdBo w A n c bs) :
    Calls Try.prog 4 #[.agg #[.slice S sn sc, .slice K kn kc], .int .i64 a, .int .i64 p, .slice B m d, .int .u8 (u.toNat : Int), .slice A n c] w (RetV w (.bool true)) := by
  cases h1 : dkFew D with
  | false => exact dskTells_early S sn sc K kn kc D a p B m d ys u A n c bs w hr ha hp hd hb (.inl h1)
  | true =>
    by_cases h2 : m ≤ 600
    · by_cases h3 : n ≤ 700
      · exact dskTells_main S sn sc K kn kc D a p B m d ys u A n c bs w hr ha hp hd hb h1 h2 h3
      · exact dskTells_early S sn sc K kn kc D a p B m d ys u A n c bs w hr ha hp hd hb (.inr (.inr ⟨h1, h2, by omega⟩))
    · exact dskTells_early S sn sc K kn kc D a p B m d ys u A n c bs w hr ha hp hd hb (.inr (.inl ⟨h1, by omega⟩))
theorem dskTells_lawN (S : Option Addr) (sn sc : Nat) (K : Option Addr) (kn kc : Nat) (D : Dk) (a p : Int) (B : Option Addr) (m d : Nat) (ys : List UInt8) (u : Nat) (A : Option Addr) (n c : Nat) (bs : List Bool) (w : World) (hr : RdDk w S sn sc K kn kc D) (ha : -9223372036854775808 ≤ a ∧ a ≤ 9223372036854775807) (hp : -9223372036854775808 ≤ p ∧ p ≤ 9223372036854775807) (hd : RdB w B m d ys) (hu : u < 256) (hb : RdBo w A n c bs) :
    Calls Try.prog 4 #[.agg #[.slice S sn sc, .slice K kn kc], .int .i64 a, .int .i64 p, .slice B m d, .int .u8 (u : Int), .slice A n c] w (RetV w (.bool true)) := by
  have h := dskTells_law S sn sc K kn kc D a p B m d ys (UInt8.ofNat u) A n c bs w hr ha hp hd hb
  have e : (UInt8.ofNat u).toNat = u := by simp [UInt8.toNat_ofNat']; omega
  rw [e] at h
  exact h
end Go.Proofs.Yteajboafcjeagaa
