/-
  Layer 21: frag: what the law FragWhole counts; one piece of its datagram.
-/
import Derived.Test.YteajboafcjeagaaFrgR
namespace Go.Proofs.Yteajboafcjeagaa
set_option maxRecDepth 20000
open Go.RowKit
set_option linter.unusedVariables false
set_option linter.unusedSimpArgs false
set_option maxHeartbeats 4000000

/-! ### A row of truth values -/
def BoAt (w : World) (g : Nat) (bs : List Bool) : Prop := RowAt w 4 g (bs.map Value.bool)
theorem BoAt.up {w w' : World} {g : Nat} {bs : List Bool} (h : BoAt w g bs) (hb : Below w.heap.size w w') : BoAt w' g bs := RowAt.up h hb
theorem BoAt.lt {w : World} {g : Nat} {bs : List Bool} (h : BoAt w g bs) : g < w.heap.size := RowAt.lt h
theorem BoAt.cell {w : World} {g : Nat} {bs : List Bool} (h : BoAt w g bs) (k : Nat) (hk : k < bs.length) : w.cell? ⟨g, k, none⟩ = some (.bool (bs.getD k false)) := by
  rw [RowAt.cell h]
  simp [List.getD, hk]
theorem BoAt.frozen {w : World} {g : Nat} {bs : List Bool} (h : BoAt w g bs) (k : Nat) : w.frozen? ⟨g, k, none⟩ = false := RowAt.frozen h k
theorem BoAt.set {w : World} {g : Nat} {bs : List Bool} (h : BoAt w g bs) (k : Nat) (b : Bool) : BoAt (w.setCell ⟨g, k, none⟩ (.bool b)) g (bs.set k b) := by
  have h1 := setc_rowT (i := k) (v := .bool b) h
  unfold BoAt RowAt
  rw [h1, List.map_set, List.setIfInBounds_toArray]
theorem elemBl : ElemAt Try.prog 26 4 (.bool false) 1 := ⟨Try.underlying26, by kernel_rfl, rfl⟩
theorem wp_makeBl {ops : Array Oper} {rest : List Oper} {o : Oper} {a : Act} {w : World} {Q : Exit → Act → World → Prop} (hgd : o.guard = none) (l c : Operand) (ho : o.op = Op.makeSlice 26 l c)
    (kl kc : IntKind) (n : Nat) (hl : a.eval l = .int kl n) (hc : a.eval c = .int kc n) (hn : n ≤ 1000000)
    (h : ∀ w', BoAt w' w.heap.size (List.replicate n false) → Below w.heap.size w w' → wpList Try.prog ops Q rest (a.put o.dst (.slice (some ⟨w.heap.size, 0, none⟩) n n)) w') : wpList Try.prog ops Q (o :: rest) a w := by
  obtain ⟨i, hi, hz, hsz, hby⟩ := info_parts elemBl.info
  refine wpList_make_full w hgd l c _ ho w.heap.size _ i _ 1 elemBl.slice hi hz hsz kl kc n n n hl hc rfl rfl (by rw [hby]; omega) (by unfold maxLen; omega) (Nat.le_refl _) (fun w' h1 h2 => h w' ?_ ?_)
  · rw [Nat.mul_one, show (Value.bool false).cells = #[Value.bool false] from rfl, toList_madeCells_one] at h1
    rcases h1.2 with ⟨h3, h4⟩ | ⟨g, cap, cur, hv, hb, hg, hc, hm, hs, ht⟩
    · injection h3 with e1; cases e1
    · injection hv with e1 e2 e3
      injection e1 with e1; injection e1 with e1
      subst e1 e3
      unfold BoAt RowAt
      rw [hg, List.map_replicate, ← ht, List.take_of_length_le (by simp; omega)]
  · exact ⟨h2.os, h2.tape, h2.output, h2.size, fun k hk => h2.block k hk (by simp)⟩
/-! ### Which pieces are there -/
def hsO (n S : Nat) (sn : List Bool) (i : Nat) : Prop := i < n ∧ sn.getD (i / S) false = true
theorem div_iff (i S q : Nat) (hS : 0 < S) : i / S = q ↔ S * q ≤ i ∧ i < S * q + S := by
  constructor
  · rintro rfl
    have h1 := Nat.div_add_mod i S
    have h2 := Nat.mod_lt i hS
    omega
  · rintro ⟨h1, h2⟩
    exact Nat.div_eq_of_lt_le (by rw [Nat.mul_comm]; exact h1) (by rw [Nat.succ_mul, Nat.mul_comm]; exact h2)
theorem hsO_add {n S q P m i : Nat} {sn : List Bool} (hS : 0 < S) (hq : q < sn.length) (hP : P = S * q) (hm : P + m = min n (P + S)) : (hsO n S sn i ∨ (P ≤ i ∧ i < P + m)) ↔ hsO n S (sn.set q true) i := by
  unfold hsO
  rw [getD_set _ _ _ _ _ hq]
  have hd := div_iff i S q hS
  rw [← hP] at hd
  constructor
  · rintro (⟨h1, h2⟩ | ⟨h1, h2⟩)
    · refine ⟨h1, ?_⟩
      split
      · rfl
      · exact h2
    · refine ⟨by omega, ?_⟩
      rw [if_pos (hd.2 (by omega))]
  · rintro ⟨h1, h2⟩
    by_cases h3 : i / S = q
    · have := hd.1 h3
      exact .inr (by omega)
    · rw [if_neg h3] at h2
      exact .inl ⟨h1, h2⟩
theorem hsO_all {n S N : Nat} {sn : List Bool} (hS : 0 < S) (hN1 : n ≤ S * N) (hN2 : ∀ k, k < N → S * k < n) : (∀ i, i < n → hsO n S sn i) ↔ ∀ k, k < N → sn.getD k false = true := by
  constructor
  · intro h k hk
    have h1 := (h (S * k) (hN2 k hk)).2
    rwa [Nat.mul_div_cancel_left k hS] at h1
  · intro h i hi
    refine ⟨hi, h _ ?_⟩
    rw [Nat.div_lt_iff_lt_mul hS, Nat.mul_comm]
    omega
def lfC (sn : List Bool) : Nat := sn.count false
theorem lfC_set : ∀ (sn : List Bool) (q : Nat), q < sn.length → sn.getD q false = false → lfC (sn.set q true) + 1 = lfC sn
  | [], q, h, _ => by simp at h
  | b :: sn, 0, _, h => by
    simp at h
    subst h
    simp [lfC]
  | b :: sn, q + 1, hq, h => by
    have := lfC_set sn q (by simpa using hq) (by simpa using h)
    unfold lfC at this ⊢
    rw [List.set_cons_succ, List.count_cons, List.count_cons]
    omega
theorem lfC_zero (sn : List Bool) : lfC sn = 0 ↔ ∀ k, k < sn.length → sn.getD k false = true := by
  unfold lfC
  rw [List.count_eq_zero]
  constructor
  · intro h k hk
    rw [List.getD, List.getElem?_eq_getElem hk]
    cases hq : sn[k] with
    | true => rfl
    | false => exact absurd (hq ▸ List.getElem_mem hk) h
  · intro h hm
    obtain ⟨k, hk, he⟩ := List.getElem_of_mem hm
    have := h k hk
    rw [List.getD, List.getElem?_eq_getElem hk, he] at this
    cases this
theorem lfC_rep (n : Nat) : lfC (List.replicate n false) = n := by simp [lfC]
theorem FrPt.congr {po : OwT} {T : Nat} {body : List UInt8} {hs hs' : Nat → Prop} {x : Fr} (h : FrPt po T body hs x) (he : ∀ i, hs i ↔ hs' i) : FrPt po T body hs' x := by
  have : hs = hs' := funext fun i => propext (he i)
  rw [← this]; exact h
/-! ### One piece -/
def fwO : OwT := (5, 6, 9, 17)
def RetWq (w : World) (n : Nat) (xs : List UInt8) (hs : Nat → Prop) (all : Bool) (e : Ending) (w' : World) : Prop := Below w.heap.size w w' ∧
  ((all = false ∧ ∃ x A c, e = .returned (.tuple #[.slice A 1 c, .agg #[.int .u16 0, .bool false, .int .i64 0, .int .i64 0, .int .u32 0, .int .u32 0, .slice none 0 0], .bool false, .int .i64 0]) ∧ OwFr w' w.heap.size A 1 c [x] ∧ FrPt fwO 35 xs hs x) ∨
   (all = true ∧ ∃ A c B d, e = .returned (.tuple #[.slice A 0 c, .agg #[.int .u16 9, .bool false, .int .i64 0, .int .i64 17, .int .u32 5, .int .u32 6, .slice B n d], .bool true, .int .i64 0]) ∧ RdFr w' A 0 c [] ∧ OwnB w' w.heap.size B n d xs))
theorem fr_one {x : Fr} {T : Nat} {po : OwT} {xs : List UInt8} {hs : Nat → Prop} (hx : FrPt po T xs hs x) (hT : T ≤ 1099511627776) (hb : xs.length ≤ 128) (hp : 0 ≤ po.2.2.2 ∧ po.2.2.2 ≤ 255) : FrS [x] := ⟨by simp, fun y hy => by simp at hy; rw [hy]; exact hx.right hT hb hp, by simp⟩
theorem fwTake (A : Option Addr) (n2 c : Nat) (l : List Fr) (xs : List UInt8) (n S N q P m : Nat) (mo all : Bool) (sn : List Bool) (B : Option Addr) (d : Nat) (W : World) (hr : RdFr W A n2 c l) (hb : RdB W B m d ((xs.drop P).take m)) (hn1 : 1 ≤ n) (hn2 : n ≤ 128) (hxl : xs.length = n)
    (hst : (l = [] ∧ ∀ k, sn.getD k false = false) ∨ ∃ x, l = [x] ∧ FrPt fwO 35 xs (hsO n S sn) x ∧ ∃ k, k < N ∧ sn.getD k false = true) (hno : ¬ ∀ k, k < N → sn.getD k false = true)
    (hP8 : P % 8 = 0) (hPm : P + m ≤ n) (hm1 : 1 ≤ m) (hmo : mo = decide (P + m < n)) (hm8 : mo = true → m % 8 = 0) (hN1 : P = 0 ∧ mo = false → N = 1)
    (hrg : ∀ i, (hsO n S sn i ∨ (P ≤ i ∧ i < P + m)) ↔ hsO n S (sn.set q true) i) (hal : (∀ i, i < n → hsO n S (sn.set q true) i) ↔ all = true) :
    Calls Try.prog 29 #[.slice A n2 c, .agg #[.int .u16 9, .bool mo, .int .i64 (P : Int), .int .i64 17, .int .u32 5, .int .u32 6, .slice B m d], .int .u64 5] W (RetWq W n xs (hsO n S (sn.set q true)) all) := by
  have how : OwOk (5, 6, 9, 17) := ⟨by decide, by decide, by decide, by decide⟩
  by_cases h1 : P = 0 ∧ mo = false
  · have hN := hN1 h1
    obtain ⟨rfl, rfl⟩ := h1
    subst hN
    have hmn : m = n := by
      have := of_decide_eq_false hmo.symm
      omega
    subst hmn
    rcases hst with ⟨rfl, hs0⟩ | ⟨x, _, _, k, hk, hkt⟩
    · obtain rfl : 0 = n2 := hr.2.1
      have hxs : (xs.drop 0).take m = xs := by rw [List.drop_zero, List.take_of_length_le (by omega)]
      rw [hxs] at hb
      refine (frgTake_whole A 0 c [] 9 17 5 6 B m d xs 5 W hr frs_nil hb how (by omega) (by omega) ((ipCheck_iff _ _ _).2 ⟨by omega, by omega, by omega, by omega, by omega, by omega⟩) (by decide)).mono ?_
      rintro e w' ⟨B', k, d', rfl, ho, hB⟩
      have hal : all = true := hal.1 (fun i hi => (hrg i).1 (.inr (by omega)))
      obtain rfl : m = k := by rw [← ho.len]; exact hxl.symm
      exact ⟨hB, .inr ⟨hal, A, c, B', d', rfl, hr.below hB, ho⟩⟩
    · exact absurd (fun k' hk' => by obtain rfl : k = k' := by omega
                                     exact hkt) hno
  · have hl : (∃ x, l = [] ++ x :: [] ∧ FrPt (5, 6, 9, 17) 35 xs (hsO n S sn) x) ∨ (l = [] ∧ ([] : List Fr) = [] ∧ 35 = 5 + 30 ∧ (∀ i, ¬ hsO n S sn i) ∧ ∀ x ∈ l, x.ow ≠ (5, 6, 9, 17)) := by
      rcases hst with ⟨rfl, hs0⟩ | ⟨x, rfl, hx, _⟩
      · exact .inr ⟨rfl, rfl, rfl, fun i hi => absurd (hs0 (i / S)) (by rw [hi.2]; decide), fun x hx => (by cases hx)⟩
      · exact .inl ⟨x, rfl, hx⟩
    have hS : FrS l := by
      rcases hst with ⟨rfl, hs0⟩ | ⟨x, rfl, hx, _⟩
      · exact frs_nil
      · exact fr_one hx (by omega) (by omega) (by decide)
    have hn3 : n2 ≤ 3 := by
      rw [← hr.2.1]
      rcases hst with ⟨rfl, _⟩ | ⟨x, rfl, _⟩ <;> simp
    refine (frgTake_pc A n2 c l [] [] 9 P mo 17 5 6 B m d 35 xs (hsO n S sn) 5 W hr hS hn3 hb how (by omega) (by omega) (by omega) (by omega) hm1 (by omega) hP8 (by rw [hxl]; exact hmo) hm8 h1 hl).mono ?_
    rintro e w' ⟨x, hx, hB, hh⟩
    have hx := hx.congr hrg
    have hq : (∀ i, i < xs.length → (hsO n S sn i ∨ (P ≤ i ∧ i < P + m))) ↔ all = true := by
      rw [← hal, hxl]
      exact ⟨fun h i hi => (hrg i).1 (h i hi), fun h i hi => (hrg i).2 (h i hi)⟩
    refine ⟨hB, ?_⟩
    rcases hh with ⟨h2, A', n', c', rfl, ho⟩ | ⟨h2, A', n', c', B', k, d', rfl, ho, hob⟩
    · obtain rfl : 1 = n' := ho.lent
      exact .inl ⟨by cases hq2 : all with
        | false => rfl
        | true => exact absurd (hq.2 hq2) h2, x, A', c', rfl, ho, hx⟩
    · obtain rfl : 0 = n' := ho.lent
      obtain rfl : n = k := by rw [← hob.len]; exact hxl.symm
      exact .inr ⟨hq.1 h2, A', c', B', d', rfl, ho.rd, hob⟩
end Go.Proofs.Yteajboafcjeagaa
