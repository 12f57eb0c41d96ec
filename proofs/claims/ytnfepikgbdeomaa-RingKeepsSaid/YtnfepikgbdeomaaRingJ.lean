/-
  Layer 7: rings: Desc.
-/
import Derived.Test.YtnfepikgbdeomaaRingI
namespace Go.Proofs.Ytnfepikgbdeomaa
set_option maxRecDepth 20000
open Go.RowKit
set_option linter.unusedVariables false
set_option linter.unusedSimpArgs false
set_option maxHeartbeats 4000000

/-- A descriptor's four numbers. -/
structure Dsc where
  a : Nat
  l : Nat
  f : Nat
  x : Nat
deriving DecidableEq
def Dsc.v (d : Dsc) : Array Value := #[.int .u64 (d.a : Int), .int .u32 (d.l : Int), .int .u16 (d.f : Int), .int .u16 (d.x : Int)]
def rgDscAt (xs : List UInt8) (p : Int) : Dsc := ⟨memNum xs p 8, memNum xs (p + 8) 4, memNum xs (p + 8 + 4) 2, memNum xs (p + 8 + 4 + 2) 2⟩
def rgDescE (n : Nat) (b k i : Int) : Int := if rgCheck n b k = true then (if 0 ≤ i ∧ i < k then 0 else 2) else 70
def rgDesc (xs : List UInt8) (b k i : Int) : Dsc := if rgDescE xs.length b k i = 0 then rgDscAt xs (b + 16 * i) else ⟨0, 0, 0, 0⟩
theorem ringDesc_any (A : Option Addr) (n c : Nat) (xs : List UInt8) (b k i : Int) (w : World) (hr : RdB w A n c xs) (hb : -9223372036854775808 ≤ b ∧ b ≤ 9223372036854775807) (hk : -9223372036854775808 ≤ k ∧ k ≤ 9223372036854775807) (hi : -9223372036854775808 ≤ i ∧ i ≤ 9223372036854775807) :
    Calls Try.prog 20 #[.agg #[.slice A n c], .int .i64 b, .int .i64 k, .int .i64 i] w (RetT w (.agg (rgDesc xs b k i).v) (.int .i64 (rgDescE n b k i))) := by
  have hn := hr.n63
  unfold rgDesc rgDescE
  rw [hr.2.1]
  obtain ⟨V, hV⟩ : ∃ V, V = ((w.alloc (.cells #[.slice A n c] 28)).alloc (.cells #[.int .u64 0, .int .u32 0, .int .u16 0, .int .u16 0] 44)).alloc (.cells #[.int .u64 0, .int .u32 0, .int .u16 0, .int .u16 0] 44) := ⟨_, rfl⟩
  have bV : Below w.heap.size w V := by rw [hV]; exact (((below_self w).alloc (Nat.le_refl _) _).alloc (by simp) _).alloc (by simp; omega) _
  have zV : V.heap.size = w.heap.size + 1 + 1 + 1 := by rw [hV]; simp
  have rV : V.heap[w.heap.size + 2]? = some (.cells #[.int .u64 0, .int .u32 0, .int .u16 0, .int .u16 0] 44 (0, 0)) := by rw [hV]; exact (show ((w.alloc (.cells #[.slice A n c] 28)).alloc (.cells #[.int .u64 0, .int .u32 0, .int .u16 0, .int .u16 0] 44)).heap.size = w.heap.size + 2 by simp) ▸ heap_alloc_new _ _
  have rO : V.heap[w.heap.size + 1]? = some (.cells #[.int .u64 0, .int .u32 0, .int .u16 0, .int .u16 0] 44 (0, 0)) := by rw [hV]; exact (heap_alloc_old _ _ (by simp)).trans (row2b ..)
  have rM : V.heap[w.heap.size]? = some (.cells #[.slice A n c] 28 (0, 0)) := by rw [hV]; exact (heap_alloc_old _ _ (by simp; omega)).trans (row2a ..)
  have HV := Lib.hid hV
  have RV := Lib.hid rV
  have RO := Lib.hid rO
  have RM := Lib.hid rM
  have ZV := Lib.hid zV
  have hrV := hr.below bV
  have HC := Lib.hid (fun W => ringCheck_any A n c b k W hn hb hk)
  clear hV rV rO rM zV
  by_cases h : rgCheck n b k = true
  · by_cases hik : 0 ≤ i ∧ i < k
    · rw [if_pos h, if_pos hik, if_pos rfl]
      have hc := of_decide_eq_true h
      have hk16 := rgN_le hc.2.1
      have hz := (rgSize_le k).2.2 hc.2.1
      have hb3 : 0 ≤ b ∧ b ≤ 8192 := by omega
      have hold := hr.old (show 0 < n by omega)
      have i1 : decide (i < 0) = false := decide_eq_false (by omega)
      have i2 : decide (k ≤ i) = false := decide_eq_false (by omega)
      obtain ⟨p, hp⟩ : ∃ p, p = 16 * i := ⟨_, rfl⟩
      have hp0 : 0 ≤ p ∧ p ≤ 1000 := by omega
      have hp1 : 16 * i = p := hp.symm
      rw [← hp]
      have hrd := fun V2 (hb2 : Below V.heap.size V V2) => ringReading_yes A n c xs b k p 73 #[.pointer (some ⟨w.heap.size + 2, 0, none⟩)] V2 (fun W g w' => w'.heap[w.heap.size + 2]? = some (.cells (rgDscAt xs (b + p)).v 44 (0, 0)) ∧ Below (w.heap.size + 2) W w') (hrV.below hb2) hb hk h hp0 (fun args W => by go_simp)
        (fun W g hbW hg hs hf => ringDesc1_any g (w.heap.size + 2) A n c xs (b + p) _ _ _ _ W hf ((hrV.below hb2).below hbW) (by omega) (by have := ZV.out; have := hb2.size; omega) (fun a e => by have := hold a e; omega) ((hbW.block _ (by have := ZV.out; have := hb2.size; omega)).trans ((hb2.block _ (by have := ZV.out; omega)).trans RV.out)))
      have HRD := Lib.hid hrd
      obtain ⟨⟨v0, v1, v2, v3⟩, hd⟩ : ∃ d, rgDscAt xs (b + p) = d := ⟨_, rfl⟩
      rw [hd] at HRD ⊢
      clear hrd hd hc hz hp
      go_enter Try.func20, Try.ntmps20
      go_wp2_with fail
      rw [← HV.out]
      have hh := HC.out V
      rw [h] at hh
      refine hh.mono ?_
      rintro e w2 ⟨rfl, hb2⟩
      have z2 := hb2.size
      have cM2 := (hb2.cell (p := ⟨w.heap.size, 0, none⟩) (by show w.heap.size < V.heap.size; have := ZV.out; omega)).trans ((cell_of_row V _ 0 _ _ _ RM.out).trans (show (#[.slice A n c] : Array Value)[0]? = some (.slice A n c) from rfl))
      go_wp2_with fail
      refine (HRD.out w2 hb2).mono ?_
      rintro e w3 ⟨rfl, W, g, hbW, hg, hf, hrow, hb4⟩
      have HB9 : Below (w.heap.size + 2) V w3 := ((hb2.mono (by have := ZV.out; omega)).trans (hbW.mono (by have := ZV.out; omega))).trans hb4
      have rO3 := (HB9.block (w.heap.size + 1) (by omega)).trans RO.out
      have e0 := (cell_of_row w3 _ 0 _ _ _ hrow).trans (show (#[.int .u64 (v0 : Int), .int .u32 (v1 : Int), .int .u16 (v2 : Int), .int .u16 (v3 : Int)] : Array Value)[0]? = some (.int .u64 (v0 : Int)) from rfl)
      have p0 := (cell_of_row w3 _ 0 _ _ _ rO3).trans (show (#[.int .u64 0, .int .u32 0, .int .u16 0, .int .u16 0] : Array Value)[0]? = some (.int .u64 0) from rfl)
      have q0 : w3.frozen? ⟨w.heap.size + 1, 0, none⟩ = false := frozen_of_row _ _ 0 _ _ rO3
      have e1 := (cell_of_row w3 _ 1 _ _ _ hrow).trans (show (#[.int .u64 (v0 : Int), .int .u32 (v1 : Int), .int .u16 (v2 : Int), .int .u16 (v3 : Int)] : Array Value)[1]? = some (.int .u32 (v1 : Int)) from rfl)
      have p1 := (cell_of_row w3 _ 1 _ _ _ rO3).trans (show (#[.int .u64 0, .int .u32 0, .int .u16 0, .int .u16 0] : Array Value)[1]? = some (.int .u32 0) from rfl)
      have q1 : w3.frozen? ⟨w.heap.size + 1, 1, none⟩ = false := frozen_of_row _ _ 1 _ _ rO3
      have e2 := (cell_of_row w3 _ 2 _ _ _ hrow).trans (show (#[.int .u64 (v0 : Int), .int .u32 (v1 : Int), .int .u16 (v2 : Int), .int .u16 (v3 : Int)] : Array Value)[2]? = some (.int .u16 (v2 : Int)) from rfl)
      have p2 := (cell_of_row w3 _ 2 _ _ _ rO3).trans (show (#[.int .u64 0, .int .u32 0, .int .u16 0, .int .u16 0] : Array Value)[2]? = some (.int .u16 0) from rfl)
      have q2 : w3.frozen? ⟨w.heap.size + 1, 2, none⟩ = false := frozen_of_row _ _ 2 _ _ rO3
      have e3 := (cell_of_row w3 _ 3 _ _ _ hrow).trans (show (#[.int .u64 (v0 : Int), .int .u32 (v1 : Int), .int .u16 (v2 : Int), .int .u16 (v3 : Int)] : Array Value)[3]? = some (.int .u16 (v3 : Int)) from rfl)
      have p3 := (cell_of_row w3 _ 3 _ _ _ rO3).trans (show (#[.int .u64 0, .int .u32 0, .int .u16 0, .int .u16 0] : Array Value)[3]? = some (.int .u16 0) from rfl)
      have q3 : w3.frozen? ⟨w.heap.size + 1, 3, none⟩ = false := frozen_of_row _ _ 3 _ _ rO3
      have RO3 := Lib.hid rO3
      clear rO3 hrow
      go_wp2_with fail
      have hrow2 : ((((w3.setCell ⟨w.heap.size + 1, 0, none⟩ (.int .u64 (v0 : Int))).setCell ⟨w.heap.size + 1, 1, none⟩ (.int .u32 (v1 : Int))).setCell ⟨w.heap.size + 1, 2, none⟩ (.int .u16 (v2 : Int))).setCell ⟨w.heap.size + 1, 3, none⟩ (.int .u16 (v3 : Int))).heap[w.heap.size + 1]? = some (.cells #[.int .u64 (v0 : Int), .int .u32 (v1 : Int), .int .u16 (v2 : Int), .int .u16 (v3 : Int)] 44 (0, 0)) := (setc_rowT (setc_rowT (setc_rowT (setc_rowT RO3.out)))).trans rfl
      have hl := run_loadVar_row (P := Try.prog) _ _ _ 44 _ _ _ hrow2 Try.underlying44 rfl (by kernel_rfl)
      refine bodyPost_ret (v := .tuple #[.agg #[.int .u64 (v0 : Int), .int .u32 (v1 : Int), .int .u16 (v2 : Int), .int .u16 (v3 : Int)], .int .i64 0]) (by simp [results, Try.results20, asAddr, hl]) rfl ?_
      exact ⟨rfl, ((((bV.trans (HB9.mono (by omega))).setCell (p := ⟨w.heap.size + 1, 0, none⟩) (by simp) _).setCell (p := ⟨w.heap.size + 1, 1, none⟩) (by simp) _).setCell (p := ⟨w.heap.size + 1, 2, none⟩) (by simp) _).setCell (p := ⟨w.heap.size + 1, 3, none⟩) (by simp) _⟩
    · rw [if_pos h, if_neg hik, if_neg (by decide)]
      have hdec : (i < 0 ∨ k ≤ i) := by omega
      go_enter Try.func20, Try.ntmps20
      go_wp2_with fail
      rw [← HV.out]
      have hh := HC.out V
      rw [h] at hh
      refine hh.mono ?_
      rintro e w2 ⟨rfl, hb2⟩
      have z2 := hb2.size
      have cM2 := (hb2.cell (p := ⟨w.heap.size, 0, none⟩) (by show w.heap.size < V.heap.size; have := ZV.out; omega)).trans ((cell_of_row V _ 0 _ _ _ RM.out).trans (show (#[.slice A n c] : Array Value)[0]? = some (.slice A n c) from rfl))
      have B2 := below_then bV hb2
      have rO3 := (hb2.block (w.heap.size + 1) (by have := ZV.out; omega)).trans RO.out
      have hrow := (hb2.block (w.heap.size + 2) (by have := ZV.out; omega)).trans RV.out
      have e0 := (cell_of_row w2 _ 0 _ _ _ hrow).trans (show (#[.int .u64 0, .int .u32 0, .int .u16 0, .int .u16 0] : Array Value)[0]? = some (.int .u64 0) from rfl)
      have p0 := (cell_of_row w2 _ 0 _ _ _ rO3).trans (show (#[.int .u64 0, .int .u32 0, .int .u16 0, .int .u16 0] : Array Value)[0]? = some (.int .u64 0) from rfl)
      have q0 : w2.frozen? ⟨w.heap.size + 1, 0, none⟩ = false := frozen_of_row _ _ 0 _ _ rO3
      have e1 := (cell_of_row w2 _ 1 _ _ _ hrow).trans (show (#[.int .u64 0, .int .u32 0, .int .u16 0, .int .u16 0] : Array Value)[1]? = some (.int .u32 0) from rfl)
      have p1 := (cell_of_row w2 _ 1 _ _ _ rO3).trans (show (#[.int .u64 0, .int .u32 0, .int .u16 0, .int .u16 0] : Array Value)[1]? = some (.int .u32 0) from rfl)
      have q1 : w2.frozen? ⟨w.heap.size + 1, 1, none⟩ = false := frozen_of_row _ _ 1 _ _ rO3
      have e2 := (cell_of_row w2 _ 2 _ _ _ hrow).trans (show (#[.int .u64 0, .int .u32 0, .int .u16 0, .int .u16 0] : Array Value)[2]? = some (.int .u16 0) from rfl)
      have p2 := (cell_of_row w2 _ 2 _ _ _ rO3).trans (show (#[.int .u64 0, .int .u32 0, .int .u16 0, .int .u16 0] : Array Value)[2]? = some (.int .u16 0) from rfl)
      have q2 : w2.frozen? ⟨w.heap.size + 1, 2, none⟩ = false := frozen_of_row _ _ 2 _ _ rO3
      have e3 := (cell_of_row w2 _ 3 _ _ _ hrow).trans (show (#[.int .u64 0, .int .u32 0, .int .u16 0, .int .u16 0] : Array Value)[3]? = some (.int .u16 0) from rfl)
      have p3 := (cell_of_row w2 _ 3 _ _ _ rO3).trans (show (#[.int .u64 0, .int .u32 0, .int .u16 0, .int .u16 0] : Array Value)[3]? = some (.int .u16 0) from rfl)
      have q3 : w2.frozen? ⟨w.heap.size + 1, 3, none⟩ = false := frozen_of_row _ _ 3 _ _ rO3
      have RO3 := Lib.hid rO3
      clear rO3 hrow
      by_cases hi0 : i < 0
      · have i1 : decide (i < 0) = true := decide_eq_true hi0
        go_wp2_with fail
        have hrow2 : ((((w2.setCell ⟨w.heap.size + 1, 0, none⟩ (.int .u64 0)).setCell ⟨w.heap.size + 1, 1, none⟩ (.int .u32 0)).setCell ⟨w.heap.size + 1, 2, none⟩ (.int .u16 0)).setCell ⟨w.heap.size + 1, 3, none⟩ (.int .u16 0)).heap[w.heap.size + 1]? = some (.cells #[.int .u64 0, .int .u32 0, .int .u16 0, .int .u16 0] 44 (0, 0)) := (setc_rowT (setc_rowT (setc_rowT (setc_rowT RO3.out)))).trans rfl
        have hl := run_loadVar_row (P := Try.prog) _ _ _ 44 _ _ _ hrow2 Try.underlying44 rfl (by kernel_rfl)
        refine bodyPost_ret (v := .tuple #[.agg #[.int .u64 0, .int .u32 0, .int .u16 0, .int .u16 0], .int .i64 2]) (by simp [results, Try.results20, asAddr, hl]) rfl ?_
        exact ⟨rfl, ((((B2).setCell (p := ⟨w.heap.size + 1, 0, none⟩) (by simp) _).setCell (p := ⟨w.heap.size + 1, 1, none⟩) (by simp) _).setCell (p := ⟨w.heap.size + 1, 2, none⟩) (by simp) _).setCell (p := ⟨w.heap.size + 1, 3, none⟩) (by simp) _⟩
      · have i1 : decide (i < 0) = false := decide_eq_false hi0
        have i2 : decide (k ≤ i) = true := decide_eq_true (by omega)
        go_wp2_with fail
        have hrow2 : ((((w2.setCell ⟨w.heap.size + 1, 0, none⟩ (.int .u64 0)).setCell ⟨w.heap.size + 1, 1, none⟩ (.int .u32 0)).setCell ⟨w.heap.size + 1, 2, none⟩ (.int .u16 0)).setCell ⟨w.heap.size + 1, 3, none⟩ (.int .u16 0)).heap[w.heap.size + 1]? = some (.cells #[.int .u64 0, .int .u32 0, .int .u16 0, .int .u16 0] 44 (0, 0)) := (setc_rowT (setc_rowT (setc_rowT (setc_rowT RO3.out)))).trans rfl
        have hl := run_loadVar_row (P := Try.prog) _ _ _ 44 _ _ _ hrow2 Try.underlying44 rfl (by kernel_rfl)
        refine bodyPost_ret (v := .tuple #[.agg #[.int .u64 0, .int .u32 0, .int .u16 0, .int .u16 0], .int .i64 2]) (by simp [results, Try.results20, asAddr, hl]) rfl ?_
        exact ⟨rfl, ((((B2).setCell (p := ⟨w.heap.size + 1, 0, none⟩) (by simp) _).setCell (p := ⟨w.heap.size + 1, 1, none⟩) (by simp) _).setCell (p := ⟨w.heap.size + 1, 2, none⟩) (by simp) _).setCell (p := ⟨w.heap.size + 1, 3, none⟩) (by simp) _⟩
  · have h : rgCheck n b k = false := by simpa using h
    have hE : (if rgCheck n b k = true then (if 0 ≤ i ∧ i < k then (0 : Int) else 2) else 70) = 70 := by rw [h]; rfl
    rw [hE, if_neg (by decide)]
    clear hE
    have HRD := Lib.hid (fun a d V2 => ringReading_no A n c b k a d V2 hn hb hk h)
    go_enter Try.func20, Try.ntmps20
    go_wp2_with fail
    rw [← HV.out]
    have hh := HC.out V
    rw [h] at hh
    refine hh.mono ?_
    rintro e w2 ⟨rfl, hb2⟩
    have z2 := hb2.size
    have cM2 := (hb2.cell (p := ⟨w.heap.size, 0, none⟩) (by show w.heap.size < V.heap.size; have := ZV.out; omega)).trans ((cell_of_row V _ 0 _ _ _ RM.out).trans (show (#[.slice A n c] : Array Value)[0]? = some (.slice A n c) from rfl))
    go_wp2_with fail
    refine (HRD.out _ _ w2).mono ?_
    rintro e w3 ⟨rfl, hb3⟩
    have HX9 := below_then hb2 hb3
    have B2 := below_then bV HX9
    have rO3 := (HX9.block (w.heap.size + 1) (by have := ZV.out; omega)).trans RO.out
    have hrow := (HX9.block (w.heap.size + 2) (by have := ZV.out; omega)).trans RV.out
    have e0 := (cell_of_row w3 _ 0 _ _ _ hrow).trans (show (#[.int .u64 0, .int .u32 0, .int .u16 0, .int .u16 0] : Array Value)[0]? = some (.int .u64 0) from rfl)
    have p0 := (cell_of_row w3 _ 0 _ _ _ rO3).trans (show (#[.int .u64 0, .int .u32 0, .int .u16 0, .int .u16 0] : Array Value)[0]? = some (.int .u64 0) from rfl)
    have q0 : w3.frozen? ⟨w.heap.size + 1, 0, none⟩ = false := frozen_of_row _ _ 0 _ _ rO3
    have e1 := (cell_of_row w3 _ 1 _ _ _ hrow).trans (show (#[.int .u64 0, .int .u32 0, .int .u16 0, .int .u16 0] : Array Value)[1]? = some (.int .u32 0) from rfl)
    have p1 := (cell_of_row w3 _ 1 _ _ _ rO3).trans (show (#[.int .u64 0, .int .u32 0, .int .u16 0, .int .u16 0] : Array Value)[1]? = some (.int .u32 0) from rfl)
    have q1 : w3.frozen? ⟨w.heap.size + 1, 1, none⟩ = false := frozen_of_row _ _ 1 _ _ rO3
    have e2 := (cell_of_row w3 _ 2 _ _ _ hrow).trans (show (#[.int .u64 0, .int .u32 0, .int .u16 0, .int .u16 0] : Array Value)[2]? = some (.int .u16 0) from rfl)
    have p2 := (cell_of_row w3 _ 2 _ _ _ rO3).trans (show (#[.int .u64 0, .int .u32 0, .int .u16 0, .int .u16 0] : Array Value)[2]? = some (.int .u16 0) from rfl)
    have q2 : w3.frozen? ⟨w.heap.size + 1, 2, none⟩ = false := frozen_of_row _ _ 2 _ _ rO3
    have e3 := (cell_of_row w3 _ 3 _ _ _ hrow).trans (show (#[.int .u64 0, .int .u32 0, .int .u16 0, .int .u16 0] : Array Value)[3]? = some (.int .u16 0) from rfl)
    have p3 := (cell_of_row w3 _ 3 _ _ _ rO3).trans (show (#[.int .u64 0, .int .u32 0, .int .u16 0, .int .u16 0] : Array Value)[3]? = some (.int .u16 0) from rfl)
    have q3 : w3.frozen? ⟨w.heap.size + 1, 3, none⟩ = false := frozen_of_row _ _ 3 _ _ rO3
    have RO3 := Lib.hid rO3
    clear rO3 hrow
    go_wp2_with fail
    have hrow2 : ((((w3.setCell ⟨w.heap.size + 1, 0, none⟩ (.int .u64 0)).setCell ⟨w.heap.size + 1, 1, none⟩ (.int .u32 0)).setCell ⟨w.heap.size + 1, 2, none⟩ (.int .u16 0)).setCell ⟨w.heap.size + 1, 3, none⟩ (.int .u16 0)).heap[w.heap.size + 1]? = some (.cells #[.int .u64 0, .int .u32 0, .int .u16 0, .int .u16 0] 44 (0, 0)) := (setc_rowT (setc_rowT (setc_rowT (setc_rowT RO3.out)))).trans rfl
    have hl := run_loadVar_row (P := Try.prog) _ _ _ 44 _ _ _ hrow2 Try.underlying44 rfl (by kernel_rfl)
    refine bodyPost_ret (v := .tuple #[.agg #[.int .u64 0, .int .u32 0, .int .u16 0, .int .u16 0], .int .i64 70]) (by simp [results, Try.results20, asAddr, hl]) rfl ?_
    exact ⟨rfl, ((((B2).setCell (p := ⟨w.heap.size + 1, 0, none⟩) (by simp) _).setCell (p := ⟨w.heap.size + 1, 1, none⟩) (by simp) _).setCell (p := ⟨w.heap.size + 1, 2, none⟩) (by simp) _).setCell (p := ⟨w.heap.size + 1, 3, none⟩) (by simp) _⟩
end Go.Proofs.Ytnfepikgbdeomaa
