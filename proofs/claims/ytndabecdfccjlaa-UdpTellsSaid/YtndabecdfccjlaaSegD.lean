/-
  Layer 24: Get.
-/
import Derived.Test.YtndabecdfccjlaaSegC
import Derived.Test.YtndabecdfccjlaaIpE
import Derived.Test.YtndabecdfccjlaaClone
namespace Go.Proofs.Ytndabecdfccjlaa
set_option maxRecDepth 20000
open Go.RowKit
set_option linter.unusedVariables false
set_option linter.unusedSimpArgs false
set_option maxHeartbeats 8000000

theorem segget1_any (p k : Nat) (A : Option Addr) (n c : Nat) (xs : List UInt8) (g : Nat) (w : World) (hr : RdB w A n c xs) (hp : p + k ≤ n) (hk : 0 < k) (hk4 : k ≤ 4) (hg : w.cell? ⟨g, 0, none⟩ = some (.slice A n c)) :
    Calls Try.prog 51 #[.int .i64 p, .int .i64 k, .pointer (some ⟨g, 0, none⟩)] w fun e w' => e = .returned (.int .i64 (fld xs p k : Nat)) ∧ w = w' := by
  have hc := hr.2.2.1
  have hc63 := hr.c63
  have hn63 := hr.n63
  obtain ⟨b, o, u, rfl, hbl, _⟩ := hr.at_ 0 (by omega)
  have hr2 := (hr.cutS p (n - p) (by omega) (by omega)).take k (by omega)
  have hF : fromBe ((xs.drop p).take k) = fld xs p k := by unfold fromBe fld; rw [List.take_of_length_le (by rw [hr2.2.1]; omega)]
  have hFl := fld_lt xs p k
  have hF2 : fld xs p k < 4294967296 := Nat.lt_of_lt_of_le hFl (by rw [show (4294967296 : Nat) = 256 ^ 4 from rfl]; exact Nat.pow_le_pow_right (by decide) hk4)
  have HF := Lib.hid hF
  obtain ⟨s, hs⟩ : ∃ s, s = p + k := ⟨_, rfl⟩
  have e0 : ¬ (k = 0) := by omega
  have e1 : (p : Int) + (k : Int) = (s : Int) := by omega
  have e2 : (p : Int) ≤ (s : Int) := by omega
  have e3 : (s : Int) ≤ (c : Int) := by omega
  have e4 : (0 : Int) ≤ (p : Int) := by omega
  have e5 : s - p = k := by omega
  have e6 : ¬ (c = p) := by omega
  clear hF hFl hs
  go_enter Try.func51, Try.ntmps51
  go_wp2_with fail
  refine (fromBe_any _ _ _ _ _ hr2).mono ?_
  rintro e w1 ⟨rfl, rfl⟩
  rw [HF.out]
  go_wp2
  go_ret
  exact ⟨rfl, rfl⟩

structure Sg where
  (sp dp : Int)
  (sq ak : Nat)
  (fl wn : Int)
  b : List UInt8
def sgZero : Sg := ⟨0, 0, 0, 0, 0, 0, []⟩
def sgFrom (xs : List UInt8) : Nat := (xs.getD 12 0).toNat / 16 * 4
def sgF (xs : List UInt8) : Sg := ⟨(fld xs 0 2 : Nat), (fld xs 2 2 : Nat), fld xs 4 4, fld xs 8 4, (fld xs 13 1 % 32 : Nat), (fld xs 14 2 : Nat), xs.drop (sgFrom xs)⟩
def sgGetE (src dst : Nat) (xs : List UInt8) : Int :=
  if xs.length < 20 then 5 else if sgFrom xs < 20 ∨ xs.length < sgFrom xs then 3 else if ipSumN src dst 6 xs ≠ 0 then 6
  else if sgCheck (sgF xs).sp (sgF xs).dp (sgF xs).fl (sgF xs).wn (sgF xs).b.length = true then 0 else 2
def sgGet (src dst : Nat) (xs : List UInt8) : Sg := if sgGetE src dst xs = 0 then sgF xs else sgZero
def RetSg (w : World) (f : Sg) (er : Int) (e : Ending) (w' : World) : Prop := ∃ A n c, e = .returned (.tuple #[.agg #[.int .i64 f.sp, .int .i64 f.dp, .int .u32 f.sq, .int .u32 f.ak, .int .i64 f.fl, .int .i64 f.wn, .slice A n c], .int .i64 er]) ∧ RdB w' A n c f.b ∧ Below w.heap.size w w'
theorem seg_cases (src dst : Nat) (xs : List UInt8) (n : Nat) (hn : xs.length = n) :
    (n < 20 ∧ sgGetE src dst xs = 5) ∨ (20 ≤ n ∧ sgFrom xs < 20 ∧ sgGetE src dst xs = 3) ∨ (20 ≤ n ∧ 20 ≤ sgFrom xs ∧ n < sgFrom xs ∧ sgGetE src dst xs = 3) ∨ (20 ≤ n ∧ 20 ≤ sgFrom xs ∧ sgFrom xs ≤ n ∧ ipSumN src dst 6 xs ≠ 0 ∧ sgGetE src dst xs = 6) ∨
    ((20 ≤ n ∧ 20 ≤ sgFrom xs ∧ sgFrom xs ≤ n ∧ ipSumN src dst 6 xs = 0) ∧ ((sgCheck (sgF xs).sp (sgF xs).dp (sgF xs).fl (sgF xs).wn (sgF xs).b.length = true ∧ sgGetE src dst xs = 0) ∨ (sgCheck (sgF xs).sp (sgF xs).dp (sgF xs).fl (sgF xs).wn (sgF xs).b.length = false ∧ sgGetE src dst xs = 2))) := by
  unfold sgGetE
  rw [hn]
  by_cases h1 : n < 20
  · exact .inl ⟨h1, if_pos h1⟩
  · right; rw [if_neg h1]
    by_cases h2 : sgFrom xs < 20
    · left; exact ⟨by omega, h2, if_pos (.inl h2)⟩
    · right
      by_cases h3 : n < sgFrom xs
      · left; exact ⟨by omega, by omega, h3, if_pos (.inr h3)⟩
      · right; rw [if_neg (by omega)]
        by_cases h4 : ipSumN src dst 6 xs ≠ 0
        · left; exact ⟨by omega, by omega, by omega, h4, if_pos h4⟩
        · right; rw [if_neg h4]
          refine ⟨⟨by omega, by omega, by omega, Decidable.not_not.1 h4⟩, ?_⟩
          cases h5 : sgCheck (sgF xs).sp (sgF xs).dp (sgF xs).fl (sgF xs).wn (sgF xs).b.length with
          | true => exact .inl ⟨rfl, if_pos rfl⟩
          | false => exact .inr ⟨rfl, if_neg (by decide)⟩
theorem and_31 (x : Nat) (h : x < 65536) : bits .and .i64 (x : Int) 31 = ((x % 32 : Nat) : Int) := by
  have := and64 x 31 (by omega) (by omega)
  rw [show (31 : Nat) = 2 ^ 5 - 1 from rfl, Nat.and_two_pow_sub_one_eq_mod] at this
  exact this
theorem RdB.setSg {w : World} {A : Option Addr} {n c : Nat} {xs : List UInt8} (h : RdB w A n c xs) (g : Nat) (cs : Array Value) (hg : w.heap.size ≤ g) : RdB (w.setRow g cs) A n c xs :=
  rd_row h g cs (fun h0 a ha => by have := h.lt h0 a ha; omega)


theorem own_lo6 {w : World} {base : Nat} {A : Option Addr} {n c : Nat} {xs : List UInt8} (h : OwnB w base A n c xs) : ∀ a, A = some a → base ≤ a.block := by
  intro a ha
  rcases h.2 with ⟨e1, _⟩ | ⟨g', cap, cur, hv, hb, _⟩
  · injection e1 with e1; rw [ha] at e1; cases e1
  · injection hv with hv; rw [ha] at hv; injection hv with hv; subst hv; exact hb
theorem setc_row {w : World} {g i : Nat} {cs : Array Value} {T : TypeId} {v : Value} (h : w.heap[g]? = some (.cells cs T (0, 0))) :
    (w.setCell ⟨g, i, none⟩ v).heap[g]? = some (.cells (cs.setIfInBounds i v) T (0, 0)) := by
  have e : (w.setCell ⟨g, i, none⟩ v).heap[g]? = (w.heap.modify g fun x => match x with | Obj.cells c elem frozen => Obj.cells (c.setIfInBounds i v) elem frozen | o => o)[g]? := rfl
  rw [e, Array.getElem?_modify, if_pos rfl, h]; rfl
theorem setc_row_other {w : World} {g h i : Nat} {v : Value} (hne : g ≠ h) : (w.setCell ⟨g, i, none⟩ v).heap[h]? = w.heap[h]? := by
  simp [World.setCell, Array.getElem?_modify, hne]
theorem segGet_no (src dst : Nat) (A : Option Addr) (n c : Nat) (xs : List UInt8) (w : World) (hsrc : src < 4294967296) (hdst : dst < 4294967296) (hr : RdB w A n c xs) (hn : n ≤ 900000) (er : Int)
    (h : (n < 20 ∧ er = 5) ∨ (20 ≤ n ∧ sgFrom xs < 20 ∧ er = 3) ∨ (20 ≤ n ∧ 20 ≤ sgFrom xs ∧ n < sgFrom xs ∧ er = 3) ∨ (20 ≤ n ∧ 20 ≤ sgFrom xs ∧ sgFrom xs ≤ n ∧ ipSumN src dst 6 xs ≠ 0 ∧ er = 6)) :
    Calls Try.prog 17 #[.int .u32 src, .int .u32 dst, .slice A n c] w (RetSg w sgZero er) := by
  have hn63 := hr.n63
  have W2row := row2b w #[.slice A n c] #[.int .i64 0, .int .i64 0, .int .u32 0, .int .u32 0, .int .i64 0, .int .i64 0, .slice none 0 0] 23 25
  have HW := Lib.hid W2row
  have r2 : RdB ((w.alloc (.cells #[.slice A n c] 23)).alloc (.cells #[.int .i64 0, .int .i64 0, .int .u32 0, .int .u32 0, .int .i64 0, .int .i64 0, .slice none 0 0] 25)) A n c xs := (hr.alloc _).alloc _
  have B2 : Below w.heap.size w ((w.alloc (.cells #[.slice A n c] 23)).alloc (.cells #[.int .i64 0, .int .i64 0, .int .u32 0, .int .u32 0, .int .i64 0, .int .i64 0, .slice none 0 0] 25)) := ((below_self w).alloc (Nat.le_refl _) _).alloc (by simp) _
  clear W2row
  rcases h with ⟨h1, rfl⟩ | ⟨h1, h2, rfl⟩ | ⟨h1, h2, h3, rfl⟩ | ⟨h1, h2, h3, h4, rfl⟩
  · have d1 : decide ((n : Int) < 20) = true := decide_eq_true (by omega)
    go_enter Try.func17, Try.ntmps17
    go_wp2_with (refine wpList_store_row rfl _ _ _ rfl (w.heap.size + 1) #[.int .i64 0, .int .i64 0, .int .u32 0, .int .u32 0, .int .i64 0, .int .i64 0, .slice none 0 0] rfl rfl _ _ HW.out (by kernel_rfl : (Try.prog.info? 25).map (·.size) = some 7) rfl (by simp [Value.oneCell']) ?_)
    have cs := fun q_ => cell_setRow_same _ (w.heap.size + 1) q_ _ #[.int .i64 0, .int .i64 0, .int .u32 0, .int .u32 0, .int .i64 0, .int .i64 0, .slice none 0 0] _ _ HW.out
    exact bodyPost_ret (v := .tuple #[.agg #[.int .i64 0, .int .i64 0, .int .u32 0, .int .u32 0, .int .i64 0, .int .i64 0, .slice none 0 0], .int .i64 5]) (by simp [results, Try.results17, go_sem, cs]) rfl ⟨none, 0, 0, rfl, RdB.nilB _, below_setRow B2 (by omega) _⟩
  · have d1 : decide ((n : Int) < 20) = false := decide_eq_false (by omega)
    obtain ⟨b, o, u, rfl, hbl, _⟩ := hr.at_ 0 (by omega)
    have c12 := r2.cellS 12 (by omega)
    obtain ⟨Bq, hB⟩ : ∃ Bq, (xs.getD 12 0).toNat = Bq := ⟨_, rfl⟩
    have hB2 : Bq < 256 := by rw [← hB]; exact (xs.getD 12 0).toNat_lt
    have hfr : sgFrom xs = Bq / 16 * 4 := by unfold sgFrom; rw [hB]
    rw [hfr] at h2
    rw [hB] at c12
    have k12 : (12 : Int) < (n : Int) := by omega
    have d2 : decide ((Bq : Int) / 16 * 4 < 20) = true := decide_eq_true (by omega)
    clear hB hfr
    go_enter Try.func17, Try.ntmps17
    go_wp2_with (refine wpList_store_row rfl _ _ _ rfl (w.heap.size + 1) #[.int .i64 0, .int .i64 0, .int .u32 0, .int .u32 0, .int .i64 0, .int .i64 0, .slice none 0 0] rfl rfl _ _ HW.out (by kernel_rfl : (Try.prog.info? 25).map (·.size) = some 7) rfl (by simp [Value.oneCell']) ?_)
    have cs := fun q_ => cell_setRow_same _ (w.heap.size + 1) q_ _ #[.int .i64 0, .int .i64 0, .int .u32 0, .int .u32 0, .int .i64 0, .int .i64 0, .slice none 0 0] _ _ HW.out
    exact bodyPost_ret (v := .tuple #[.agg #[.int .i64 0, .int .i64 0, .int .u32 0, .int .u32 0, .int .i64 0, .int .i64 0, .slice none 0 0], .int .i64 3]) (by simp [results, Try.results17, go_sem, cs]) rfl ⟨none, 0, 0, rfl, RdB.nilB _, below_setRow B2 (by omega) _⟩
  · have d1 : decide ((n : Int) < 20) = false := decide_eq_false (by omega)
    obtain ⟨b, o, u, rfl, hbl, _⟩ := hr.at_ 0 (by omega)
    have c12 := r2.cellS 12 (by omega)
    obtain ⟨Bq, hB⟩ : ∃ Bq, (xs.getD 12 0).toNat = Bq := ⟨_, rfl⟩
    have hB2 : Bq < 256 := by rw [← hB]; exact (xs.getD 12 0).toNat_lt
    have hfr : sgFrom xs = Bq / 16 * 4 := by unfold sgFrom; rw [hB]
    rw [hfr] at h2 h3
    rw [hB] at c12
    have k12 : (12 : Int) < (n : Int) := by omega
    have d2 : decide ((Bq : Int) / 16 * 4 < 20) = false := decide_eq_false (by omega)
    have d3 : decide ((n : Int) < (Bq : Int) / 16 * 4) = true := decide_eq_true (by omega)
    clear hB hfr
    go_enter Try.func17, Try.ntmps17
    go_wp2_with (refine wpList_store_row rfl _ _ _ rfl (w.heap.size + 1) #[.int .i64 0, .int .i64 0, .int .u32 0, .int .u32 0, .int .i64 0, .int .i64 0, .slice none 0 0] rfl rfl _ _ HW.out (by kernel_rfl : (Try.prog.info? 25).map (·.size) = some 7) rfl (by simp [Value.oneCell']) ?_)
    have cs := fun q_ => cell_setRow_same _ (w.heap.size + 1) q_ _ #[.int .i64 0, .int .i64 0, .int .u32 0, .int .u32 0, .int .i64 0, .int .i64 0, .slice none 0 0] _ _ HW.out
    exact bodyPost_ret (v := .tuple #[.agg #[.int .i64 0, .int .i64 0, .int .u32 0, .int .u32 0, .int .i64 0, .int .i64 0, .slice none 0 0], .int .i64 3]) (by simp [results, Try.results17, go_sem, cs]) rfl ⟨none, 0, 0, rfl, RdB.nilB _, below_setRow B2 (by omega) _⟩
  · have d1 : decide ((n : Int) < 20) = false := decide_eq_false (by omega)
    obtain ⟨b, o, u, rfl, hbl, _⟩ := hr.at_ 0 (by omega)
    have c12 := r2.cellS 12 (by omega)
    obtain ⟨Bq, hB⟩ : ∃ Bq, (xs.getD 12 0).toNat = Bq := ⟨_, rfl⟩
    have hB2 : Bq < 256 := by rw [← hB]; exact (xs.getD 12 0).toNat_lt
    have hfr : sgFrom xs = Bq / 16 * 4 := by unfold sgFrom; rw [hB]
    rw [hfr] at h2 h3
    rw [hB] at c12
    have k12 : (12 : Int) < (n : Int) := by omega
    have d2 : decide ((Bq : Int) / 16 * 4 < 20) = false := decide_eq_false (by omega)
    have d3 : decide ((n : Int) < (Bq : Int) / 16 * 4) = false := decide_eq_false (by omega)
    clear hB hfr
    obtain ⟨S, hS⟩ : ∃ S, ipSumN src dst 6 xs = S := ⟨ipSumN src dst 6 xs, rfl⟩
    rw [hS] at h4
    have k5 : ((S : Int) != 0) = true := by rw [bne_iff_ne]; omega
    have HS := Lib.hid hS
    clear hS
    go_enter Try.func17, Try.ntmps17
    go_wp2_with fail
    have hh := ipSum_any src dst 6 (some ⟨b, o, none⟩) n c xs _ hsrc hdst r2 (by omega)
    rw [HS.out] at hh
    refine hh.mono ?_
    clear hh
    rintro e w3 ⟨rfl, hb3⟩
    have H3 := Lib.hid ((hb3.block (w.heap.size + 1) (by simp)).trans HW.out)
    have B3 := below_then B2 hb3
    go_wp2_with (refine wpList_store_row rfl _ _ _ rfl (w.heap.size + 1) #[.int .i64 0, .int .i64 0, .int .u32 0, .int .u32 0, .int .i64 0, .int .i64 0, .slice none 0 0] rfl rfl _ _ H3.out (by kernel_rfl : (Try.prog.info? 25).map (·.size) = some 7) rfl (by simp [Value.oneCell']) ?_)
    have cs := fun q_ => cell_setRow_same _ (w.heap.size + 1) q_ _ #[.int .i64 0, .int .i64 0, .int .u32 0, .int .u32 0, .int .i64 0, .int .i64 0, .slice none 0 0] _ _ H3.out
    exact bodyPost_ret (v := .tuple #[.agg #[.int .i64 0, .int .i64 0, .int .u32 0, .int .u32 0, .int .i64 0, .int .i64 0, .slice none 0 0], .int .i64 6]) (by simp [results, Try.results17, go_sem, cs]) rfl ⟨none, 0, 0, rfl, RdB.nilB _, below_setRow B3 (by omega) _⟩

theorem segGet_main (src dst : Nat) (A : Option Addr) (n c : Nat) (xs : List UInt8) (w : World) (hsrc : src < 4294967296) (hdst : dst < 4294967296) (hr : RdB w A n c xs) (hn : n ≤ 900000) (h1 : 20 ≤ n) (h2 : 20 ≤ sgFrom xs) (h3 : sgFrom xs ≤ n) (h4 : ipSumN src dst 6 xs = 0) (ck : Bool) (hck : sgCheck (sgF xs).sp (sgF xs).dp (sgF xs).fl (sgF xs).wn (sgF xs).b.length = ck) (f : Sg) (er : Int) (hf : (ck = true ∧ f = sgF xs ∧ er = 0) ∨ (ck = false ∧ f = sgZero ∧ er = 2)) :
    Calls Try.prog 17 #[.int .u32 src, .int .u32 dst, .slice A n c] w (RetSg w f er) := by
  have hn63 := hr.n63
  have hl := hr.2.1
  have hnc := hr.2.2.1
  have hc63 := hr.c63
  obtain ⟨b, o, u, rfl, hbl, _⟩ := hr.at_ 0 (by omega)
  have c12 := hr.cellS 12 (by omega)
  obtain ⟨Bq, hB⟩ : ∃ Bq, (xs.getD 12 0).toNat = Bq := ⟨_, rfl⟩
  have hB2 : Bq < 256 := by rw [← hB]; exact (xs.getD 12 0).toNat_lt
  have hfr : sgFrom xs = Bq / 16 * 4 := by unfold sgFrom; rw [hB]
  obtain ⟨fr, hfq⟩ : ∃ fr, sgFrom xs = fr := ⟨_, rfl⟩
  have hf2 : (Bq : Int) / 16 * 4 = (fr : Int) := by omega
  rw [hfq] at h2 h3
  rw [hB] at c12
  have k12 : (12 : Int) < (n : Int) := by omega
  have d1 : decide ((n : Int) < 20) = false := decide_eq_false (by omega)
  have d2 : decide ((fr : Int) < 20) = false := decide_eq_false (by omega)
  have d3 : decide ((n : Int) < (fr : Int)) = false := decide_eq_false (by omega)
  have hsf : sgF xs = ⟨(fld xs 0 2 : Nat), (fld xs 2 2 : Nat), fld xs 4 4, fld xs 8 4, (fld xs 13 1 % 32 : Nat), (fld xs 14 2 : Nat), xs.drop fr⟩ := by unfold sgF; rw [hfq]
  have hbl2 : (xs.drop fr).length = n - fr := by rw [List.length_drop, hl]
  rw [hsf] at hck hf
  obtain ⟨f0, e0⟩ : ∃ f, fld xs 0 2 = f := ⟨_, rfl⟩
  obtain ⟨f1, e1⟩ : ∃ f, fld xs 2 2 = f := ⟨_, rfl⟩
  obtain ⟨f2, e2⟩ : ∃ f, fld xs 4 4 = f := ⟨_, rfl⟩
  obtain ⟨f3, e3⟩ : ∃ f, fld xs 8 4 = f := ⟨_, rfl⟩
  obtain ⟨f4, e4⟩ : ∃ f, fld xs 13 1 = f := ⟨_, rfl⟩
  obtain ⟨f5, e5⟩ : ∃ f, fld xs 14 2 = f := ⟨_, rfl⟩
  have g0 : f0 < 65536 := by rw [← e0]; exact fld_lt xs 0 2
  have g1 : f1 < 65536 := by rw [← e1]; exact fld_lt xs 2 2
  have g2 : f2 < 4294967296 := by rw [← e2]; exact fld_lt xs 4 4
  have g3 : f3 < 4294967296 := by rw [← e3]; exact fld_lt xs 8 4
  have g4 : f4 < 256 := by rw [← e4]; exact fld_lt xs 13 1
  have g5 : f5 < 65536 := by rw [← e5]; exact fld_lt xs 14 2
  have a31 := and_31 f4 (by omega)
  rw [e0, e1, e2, e3, e4, e5, hbl2] at hck
  rw [e0, e1, e2, e3, e4, e5] at hf
  obtain ⟨f6, e6⟩ : ∃ f6, f4 % 32 = f6 := ⟨_, rfl⟩
  rw [e6] at hf hck a31
  have g6 : f6 < 32 := by omega
  clear e6
  have HFF := Lib.hid hf
  clear hf
  have E0 := Lib.hid e0
  have E1 := Lib.hid e1
  have E2 := Lib.hid e2
  have E3 := Lib.hid e3
  have E4 := Lib.hid e4
  have E5 := Lib.hid e5
  have HCK := Lib.hid hck
  have H4 := Lib.hid h4
  have hd := hr.cutS fr (n - fr) (by omega) 
  obtain ⟨D, kD⟩ : ∃ D, (if c = fr then some (⟨b, o, none⟩ : Addr) else some ⟨b, o + fr, none⟩) = D := ⟨_, rfl⟩
  have hr3 : RdB w D (n - fr) (c - fr) (xs.drop fr) := by
    have := hr.drop fr h3
    rw [← kD]
    simpa [Addr.add_lit] using this
  have kf1 : (fr : Int) ≤ (n : Int) := by omega
  have kf2 : (n : Int) ≤ (c : Int) := by omega
  have kf3 : (0 : Int) ≤ (fr : Int) := by omega
  clear hB hfr hfq hsf e0 e1 e2 e3 e4 e5 hck h4 hd hbl2
  go_enter Try.func17, Try.ntmps17
  go_wp2_with fail
  have hh := ipSum_any src dst 6 (some ⟨b, o, none⟩) n c xs _ hsrc hdst ((hr.alloc (.cells #[.slice (some ⟨b, o, none⟩) n c] 23)).alloc (.cells #[.int .i64 0, .int .i64 0, .int .u32 0, .int .u32 0, .int .i64 0, .int .i64 0, .slice none 0 0] 25)) (by omega)
  rw [H4.out] at hh
  refine hh.mono ?_
  clear hh
  rintro e w3 ⟨rfl, hb3⟩
  have B2 : Below w.heap.size w ((w.alloc (.cells #[.slice (some ⟨b, o, none⟩) n c] 23)).alloc (.cells #[.int .i64 0, .int .i64 0, .int .u32 0, .int .u32 0, .int .i64 0, .int .i64 0, .slice none 0 0] 25)) := ((below_self w).alloc (Nat.le_refl _) _).alloc (by simp) _
  have B3 := below_then B2 hb3
  have z3 := hb3.size
  have z3' : w.heap.size + 2 ≤ w3.heap.size := by simp at z3; omega
  have R3 := Lib.hid ((hb3.block (w.heap.size + 1) (by simp)).trans (row2b w #[.slice (some ⟨b, o, none⟩) n c] #[.int .i64 0, .int .i64 0, .int .u32 0, .int .u32 0, .int .i64 0, .int .i64 0, .slice none 0 0] 23 25))
  have c3 : w3.cell? ⟨w.heap.size, 0, none⟩ = some (.slice (some ⟨b, o, none⟩) n c) := cell_of_row _ _ 0 _ _ _ ((hb3.block w.heap.size (by simp; omega)).trans (row2a ..))
  have r3 := hr.below B3
  clear z3 hb3
  go_wp2_with fail
  refine (segget1_any 0 2 _ n c xs w.heap.size w3 r3 (by omega) (by omega) (by omega) c3).mono ?_
  rintro e w4 ⟨rfl, rfl⟩
  rw [E0.out]
  go_wp2_with fail
  refine (segget1_any 2 2 _ n c xs w.heap.size w3 r3 (by omega) (by omega) (by omega) c3).mono ?_
  rintro e w4 ⟨rfl, rfl⟩
  rw [E1.out]
  go_wp2_with fail
  refine (segget1_any 4 4 _ n c xs w.heap.size w3 r3 (by omega) (by omega) (by omega) c3).mono ?_
  rintro e w4 ⟨rfl, rfl⟩
  rw [E2.out]
  go_wp2_with fail
  refine (segget1_any 8 4 _ n c xs w.heap.size w3 r3 (by omega) (by omega) (by omega) c3).mono ?_
  rintro e w4 ⟨rfl, rfl⟩
  rw [E3.out]
  go_wp2_with fail
  refine (segget1_any 13 1 _ n c xs w.heap.size w3 r3 (by omega) (by omega) (by omega) c3).mono ?_
  rintro e w4 ⟨rfl, rfl⟩
  rw [E4.out]
  go_wp2_with fail
  refine (segget1_any 14 2 _ n c xs w.heap.size w3 r3 (by omega) (by omega) (by omega) c3).mono ?_
  rintro e w4 ⟨rfl, rfl⟩
  rw [E5.out]
  have c3' := (((below_self w3).alloc (Nat.le_refl _) (.cells #[.int .i64 (f0 : Int), .int .i64 (f1 : Int), .int .u32 (f2 : Int), .int .u32 (f3 : Int), .int .i64 (f6 : Int), .int .i64 (f5 : Int), .slice none 0 0] 25)).cell (p := ⟨w.heap.size, 0, none⟩) (by show w.heap.size < w3.heap.size; omega)).trans c3
  go_wp2_with fail
  try rw [kD]
  refine named ?_
  intro W5 hW5
  have bW5 : Below w3.heap.size w3 W5 := by rw [hW5]; repeat' (first | exact Below.refl _ _ | (refine Below.alloc ?_ ?_ _; rotate_left; (simp <;> omega)) | refine Below.drew ?_)
  have zW5 := bW5.size
  have S5 : SgAt W5 w3.heap.size f0 f1 f2 f3 f6 f5 none 0 0 := by rw [hW5]; exact row1 ..
  have x5 : w3.heap.size < W5.heap.size := by rw [hW5]; simp
  have HW5 := Lib.hid hW5
  clear hW5
  refine (clone18_any D (n - fr) (c - fr) (xs.drop fr) W5 ((hr3.below B3).below bW5) (by omega)).mono ?_
  rintro e w6 ⟨A6, n6, c6, rfl, ho6, hb6⟩
  have hn6 : n - fr = n6 := by rw [← ho6.len, hr3.2.1]
  subst hn6
  have S6 := S5.below hb6 x5
  have R6 := (hb6.block (w.heap.size + 1) (by omega)).trans ((bW5.block (w.heap.size + 1) (by omega)).trans R3.out)
  obtain ⟨a0, a1, a2, a3, a4, a5, a6, af⟩ := S6.cells
  have f6' := af 6
  clear af c3 c3'
  have z6 := hb6.size
  have hs6 := setc_row (i := 6) (v := .slice A6 (n - fr) c6) S6
  have hr6 := (setc_row_other (g := w3.heap.size) (i := 6) (v := .slice A6 (n - fr) c6) (by omega)).trans R6
  have B6 := below_then B3 (below_then bW5 hb6)
  have bS := B6.setCell (p := ⟨w3.heap.size, 6, none⟩) (by show w.heap.size ≤ w3.heap.size; omega) (.slice A6 (n - fr) c6)
  have rd6 := rd_far ho6.rd ⟨w3.heap.size, 6, none⟩ (.slice A6 (n - fr) c6) (fun h a ha => by have := own_lo6 ho6 a ha; show a.block ≠ w3.heap.size; omega)
  go_wp2_with fail
  refine named ?_
  intro V hV
  rw [← hV] at hs6 hr6 bS rd6
  have HV := Lib.hid hV
  clear hV a0 a1 a2 a3 a4 a5 a6 f6'
  have SV : SgAt V w3.heap.size f0 f1 f2 f3 f6 f5 A6 (n - fr) c6 := hs6
  have hh := sgCheck_any (f0 : Int) (f1 : Int) f2 f3 (f6 : Int) (f5 : Int) A6 (n - fr) c6 V (by omega)
  rw [HCK.out] at hh
  refine hh.mono ?_
  clear hh
  rintro e w8 ⟨rfl, hb8⟩
  have S8 := SV.below hb8 SV.lt
  have R8 := Lib.hid ((hb8.block (w.heap.size + 1) (by have := SV.lt; omega)).trans hr6)
  have B8 := below_then bS hb8
  have rd8 := rd6.below hb8
  have hne : 0 < n - fr → ∀ a, A6 = some a → a.block ≠ w.heap.size + 1 := fun h a ha => by have := own_lo6 ho6 a ha; omega
  have HNE := Lib.hid hne
  obtain ⟨a0, a1, a2, a3, a4, a5, a6, af⟩ := S8.cells
  clear af hr6 hs6 hne
  rcases HFF.out with ⟨rfl, rfl, rfl⟩ | ⟨rfl, rfl, rfl⟩
  · skip
    go_wp2_with (refine wpList_store_row rfl _ _ _ rfl (w.heap.size + 1) #[.int .i64 (f0 : Int), .int .i64 (f1 : Int), .int .u32 (f2 : Int), .int .u32 (f3 : Int), .int .i64 (f6 : Int), .int .i64 (f5 : Int), .slice A6 (n - fr) c6] rfl rfl _ _ R8.out (by kernel_rfl : (Try.prog.info? 25).map (·.size) = some 7) rfl (by simp [Value.oneCell']) ?_)
    have cs := fun q_ => cell_setRow_same _ (w.heap.size + 1) q_ _ #[.int .i64 (f0 : Int), .int .i64 (f1 : Int), .int .u32 (f2 : Int), .int .u32 (f3 : Int), .int .i64 (f6 : Int), .int .i64 (f5 : Int), .slice A6 (n - fr) c6] _ _ R8.out
    exact bodyPost_ret (v := .tuple #[.agg #[.int .i64 (f0 : Int), .int .i64 (f1 : Int), .int .u32 (f2 : Int), .int .u32 (f3 : Int), .int .i64 (f6 : Int), .int .i64 (f5 : Int), .slice A6 (n - fr) c6], .int .i64 0]) (by simp [results, Try.results17, go_sem, cs]) rfl ⟨A6, n - fr, c6, rfl, rd_row rd8 _ _ HNE.out, below_setRow B8 (by omega) _⟩
  · skip
    go_wp2_with (refine wpList_store_row rfl _ _ _ rfl (w.heap.size + 1) #[.int .i64 0, .int .i64 0, .int .u32 0, .int .u32 0, .int .i64 0, .int .i64 0, .slice none 0 0] rfl rfl _ _ R8.out (by kernel_rfl : (Try.prog.info? 25).map (·.size) = some 7) rfl (by simp [Value.oneCell']) ?_)
    have cs := fun q_ => cell_setRow_same _ (w.heap.size + 1) q_ _ #[.int .i64 0, .int .i64 0, .int .u32 0, .int .u32 0, .int .i64 0, .int .i64 0, .slice none 0 0] _ _ R8.out
    exact bodyPost_ret (v := .tuple #[.agg #[.int .i64 0, .int .i64 0, .int .u32 0, .int .u32 0, .int .i64 0, .int .i64 0, .slice none 0 0], .int .i64 2]) (by simp [results, Try.results17, go_sem, cs]) rfl ⟨none, 0, 0, rfl, RdB.nilB _, below_setRow B8 (by omega) _⟩

theorem segGet_any (src dst : Nat) (A : Option Addr) (n c : Nat) (xs : List UInt8) (w : World) (hsrc : src < 4294967296) (hdst : dst < 4294967296) (hr : RdB w A n c xs) (hn : n ≤ 900000) :
    Calls Try.prog 17 #[.int .u32 src, .int .u32 dst, .slice A n c] w (RetSg w (sgGet src dst xs) (sgGetE src dst xs)) := by
  unfold sgGet
  rcases seg_cases src dst xs n hr.2.1 with ⟨h1, h2⟩ | ⟨h1, h2, h3⟩ | ⟨h1, h2, h3, h4⟩ | ⟨h1, h2, h3, h4, h5⟩ | ⟨⟨h1, h2, h3, h4⟩, ⟨h5, h6⟩ | ⟨h5, h6⟩⟩
  · rw [h2, if_neg (by decide)]; exact segGet_no src dst A n c xs w hsrc hdst hr hn 5 (.inl ⟨h1, rfl⟩)
  · rw [h3, if_neg (by decide)]; exact segGet_no src dst A n c xs w hsrc hdst hr hn 3 (.inr (.inl ⟨h1, h2, rfl⟩))
  · rw [h4, if_neg (by decide)]; exact segGet_no src dst A n c xs w hsrc hdst hr hn 3 (.inr (.inr (.inl ⟨h1, h2, h3, rfl⟩)))
  · rw [h5, if_neg (by decide)]; exact segGet_no src dst A n c xs w hsrc hdst hr hn 6 (.inr (.inr (.inr ⟨h1, h2, h3, h4, rfl⟩)))
  · rw [h6, if_pos rfl]; exact segGet_main src dst A n c xs w hsrc hdst hr hn h1 h2 h3 h4 true h5 _ _ (.inl ⟨rfl, rfl, rfl⟩)
  · rw [h6, if_neg (by decide)]; exact segGet_main src dst A n c xs w hsrc hdst hr hn h1 h2 h3 h4 false h5 _ _ (.inr ⟨rfl, rfl, rfl⟩)
end Go.Proofs.Ytndabecdfccjlaa
