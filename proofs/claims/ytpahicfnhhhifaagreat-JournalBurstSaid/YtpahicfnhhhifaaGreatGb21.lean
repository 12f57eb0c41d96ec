/-
 Proved here, for the statement JournalBurst:
 Layer 14: journal: the records that follow a checkpoint.
 Layer 13: Choose of the package.
-/
import Derived.Great.BuildSlice
import Derived.Test.YtpahicfnhhhifaaGreatGb20
set_option linter.unusedVariables false
set_option linter.unusedSimpArgs false
namespace Go.Proofs.YtpahicfnhhhifaaGreat
set_option maxRecDepth 20000
open Go.RowKit
set_option maxHeartbeats 8000000
theorem fold_get (i : Nat) : ∀ (l : List Value) (j : Nat) (cs : Array Value), (List.foldl (fun (cs : Array Value) (p : Value × Nat) => cs.setIfInBounds (0 + p.2) p.1) cs (l.zipIdx j))[i]? = if j ≤ i ∧ i < j + l.length ∧ i < cs.size then l[i - j]? else cs[i]?
 | [], j, cs => by rw [if_neg (by simp; omega)]; rfl
 | v :: l, j, cs => by
  rw [List.zipIdx_cons, List.foldl_cons, fold_get i l (j + 1)]
  simp only [Array.size_setIfInBounds, List.length_cons, Nat.zero_add]
  by_cases h1 : j + 1 ≤ i ∧ i < j + 1 + l.length ∧ i < cs.size
  ·rw [if_pos h1, if_pos (by omega), show i - j = (i - (j + 1)) + 1 by omega, List.getElem?_cons_succ]
  ·rw [if_neg h1]
   by_cases h2 : i = j
   ·subst h2
    by_cases h3 : i < cs.size
    ·rw [if_pos (by omega)]; simp [h3]
    ·rw [if_neg (by omega)]; simp [h3]
   ·rw [if_neg (by omega)]
    simp [Array.getElem?_setIfInBounds, Ne.symm h2]
theorem fill_one (K : Nat) (z xs : Array Value) (hz : z.size = K) (hx : xs.size = K) : Instr.fill (fun i => some (i * K, K)) z [(0, .agg xs)] = some xs := by
 unfold Instr.fill
 have h1 : (Value.agg xs).cells = xs := rfl
 simp only [h1, hx, hz, Nat.zero_mul, Nat.zero_add]
 rw [if_neg (by simp)]
 unfold Instr.fill
 congr 1
 rw [← Array.foldl_toList, Array.toList_zipIdx]
 apply Array.ext_getElem?
 intro i
 have := fold_get i xs.toList 0 z
 simp only [Nat.zero_add] at this
 rw [this]
 by_cases hi : i < K
 ·rw [if_pos (by simp [hx, hz]; exact hi)]; simp
 ·rw [if_neg (by simp [hx]; intro h; omega), Array.getElem?_eq_none (by omega), Array.getElem?_eq_none (by omega)]
theorem fill_one0 (K : Nat) {zz : Array Value} {xs : Array Value} (hx : xs.size = K) : Instr.fill (fun i => some (i * K, K)) ((Array.range (1 * K)).map (zz[· % zz.size]!)) [(0, .agg xs)] = some xs := fill_one K _ _ (by rw [Array.size_map, Array.size_range, Nat.one_mul]) hx
theorem wp_litR {ops : Array Oper} {rest : List Oper} {o : Oper} {a : Act} {w : World} {Q : Exit → Act → World → Prop} (hgd : o.guard = none) (x : Operand) (ho : o.op = .buildSlice 73 1 #[(0, x)]) {r : Rc} {A : Option Addr} {n c : Nat} (hx : a.eval x = .agg (rcV r A n c).toArray) (hD : r.D.length = 32)
  (h : ∀ X, X.heap[w.heap.size]? = some (.cells (rcV r A n c).toArray 90 (0, 0)) → Below w.heap.size w X → wpList Tryz.prog ops Q rest (a.put o.dst (.slice (some ⟨w.heap.size, 0, none⟩) 1 1)) X) : wpList Tryz.prog ops Q (o :: rest) a w := by
 obtain ⟨ie, h1, h2, h3, h4⟩ := rinfo
 refine wpList_buildSlice hgd 73 90 1 _ ho (rcV r A n c).toArray ie _ Tryz.underlying73 h1 h2 (by rw [h3]; decide) (by rw [h3]; decide) (by rw [h3]; simp only [List.map_toArray, List.map_cons, List.map_nil, hx]; exact fill_one0 39 (zz := rcZero.cells) (by rw [List.size_toArray, rcV_len _ _ _ _ hD])) (h _ (drw_at _ rfl) ((below_self w).alloc (Nat.le_refl _) _))
def RetRs (w : World) (l : List Rc) (e : Ending) (w' : World) : Prop := ∃ A n c, e = .returned (.slice A n c) ∧ OwR w' w.heap.size A n c l ∧ Below w.heap.size w w'
theorem OwR.agr {P : Nat → Prop} {w W : World} {base : Nat} {A : Option Addr} {n c : Nat} {l : List Rc} (h : OwR w base A n c l) (ha : AgrP P w W) (hs : ∀ j, P j → j < base) : OwR W base A n c l := by
 obtain ⟨us, h1, h2⟩ := h
 refine ⟨us, own_agr0 h1 ha hs, h2.keep (fun B m d xs hx hz => ⟨?_, hz⟩)⟩
 by_cases hm : 0 < m
 ·exact ⟨rd_agr hx.1 ha (fun a e hp => by have := (hz hm a e).1; have := hs _ hp; omega), hx.2⟩
 ·have : xs = [] := List.eq_nil_of_length_eq_zero (by rw [hx.2.1]; omega)
  exact ⟨.inl (by rw [this]; rfl), hx.2⟩
theorem OwR.mono {w : World} {base base' : Nat} {A : Option Addr} {n c : Nat} {l : List Rc} (h : OwR w base A n c l) (hb : base' ≤ base) : OwR w base' A n c l := by
 obtain ⟨us, h1, h2⟩ := h
 have hk : ∀ {us : List Value} {l : List Rc} {Z : Option Nat}, RcRow w base Z us l → RcRow w base' Z us l := by
  intro us l Z
  induction l generalizing us with
  | nil => exact fun h => h
  | cons r l ih => exact fun ⟨B, m, d, rest, a1, a2, a3, a4, a5⟩ => ⟨B, m, d, rest, a1, a2, a3, fun hm a e => ⟨Nat.le_trans hb (a4 hm a e).1, (a4 hm a e).2⟩, ih a5⟩
 exact ⟨us, own_monoK h1 hb, hk h2⟩
def RrI (w V : World) (q : Nat) (D : Dk) (g T : Nat) (l : List Rc) (v i : Value) (Y : World) : Prop := ∃ (k : Nat) (A : Option Addr) (c : Nat) (done : List Rc) (P : List UInt8), k ≤ T ∧ v = .slice A k c ∧ i = .int .i64 (k : Int) ∧ OwR Y (q + 1) A k c done ∧ Y.heap[q]? = some (.cells (dgA P) 30 (0, 0)) ∧ P.length = 32 ∧ l = done ++ jnRecs D g (T - k) k P ∧ Below V.heap.size V Y
theorem sup_dig {w : World} {h g : Nat} {s l : Int} {D : List UInt8} (q : w.heap[h]? = some (.cells (suV g s l D) 33 (0, 0))) : w.rangeAt h 3 (D.map vB) := fun j v hv => by
 rw [cell_of_row w h (3 + j) _ _ _ q, suV3]; exact hv
set_option maxRecDepth 100000 in
theorem jrnRecords_any (AV : Array Value) (D : Dk) (s : Su) (w : World) (v : DkVal AV w D) (hok : dkOk D = true) (hl : 98 ≤ D.s.length) (hg : s.g < 4294967296) (hD : s.D.length = 32) :
  Calls Tryz.prog 72 #[.agg AV, .agg (suV s.g s.s s.l s.D)] w (RetRs w (jnRecs D s.g (D.s.length - 98) 0 s.D)) := by
 obtain ⟨D0, hD0⟩ : ∃ D0 : Array Value, #[.int .u8 0, .int .u8 0, .int .u8 0, .int .u8 0, .int .u8 0, .int .u8 0, .int .u8 0, .int .u8 0, .int .u8 0, .int .u8 0, .int .u8 0, .int .u8 0, .int .u8 0, .int .u8 0, .int .u8 0, .int .u8 0, .int .u8 0, .int .u8 0, .int .u8 0, .int .u8 0, .int .u8 0, .int .u8 0, .int .u8 0, .int .u8 0, .int .u8 0, .int .u8 0, .int .u8 0, .int .u8 0, .int .u8 0, .int .u8 0, .int .u8 0, .int .u8 0] = D0 := ⟨#[.int .u8 0, .int .u8 0, .int .u8 0, .int .u8 0, .int .u8 0, .int .u8 0, .int .u8 0, .int .u8 0, .int .u8 0, .int .u8 0, .int .u8 0, .int .u8 0, .int .u8 0, .int .u8 0, .int .u8 0, .int .u8 0, .int .u8 0, .int .u8 0, .int .u8 0, .int .u8 0, .int .u8 0, .int .u8 0, .int .u8 0, .int .u8 0, .int .u8 0, .int .u8 0, .int .u8 0, .int .u8 0, .int .u8 0, .int .u8 0, .int .u8 0, .int .u8 0], rfl⟩
 have hD0s : D0.size = 32 := by rw [← hD0]; rfl
 have HD0 := Lib.hid hD0
 clear hD0
 obtain ⟨V, hV⟩ : ∃ V, V = (w.alloc (.cells AV 40)).alloc (.cells (suV s.g s.s s.l s.D) 33) := ⟨_, rfl⟩
 have bV : Below w.heap.size w V := by rw [hV]; exact ((below_self w).alloc (Nat.le_refl _) _).alloc (by simp) _
 have zV : V.heap.size = w.heap.size + 2 := by rw [hV]; simp
 have qV : Hid (DkV V w.heap.size AV D) := Lib.hid ⟨by rw [hV]; exact drw_old _ (drw_at _ rfl), v.below bV⟩
 have rV : V.heap[w.heap.size + 1]? = some (.cells (suV s.g s.s s.l s.D) 33 (0, 0)) := by rw [hV]; exact drw_at _ (by simp)
 have RV := Lib.hid rV
 have HV := Lib.hid hV
 have ZV := Lib.hid zV
 obtain ⟨V2, hV2⟩ : ∃ W, W = V.alloc (.cells D0 30) := ⟨_, rfl⟩
 have b2 : Below V.heap.size V V2 := by rw [hV2]; exact (below_self V).alloc (Nat.le_refl _) _
 have r2 : Hid (V2.heap[V.heap.size]? = some (.cells D0 30 (0, 0))) := by rw [hV2]; exact Lib.hid (drw_at _ rfl)
 have HV2 := Lib.hid hV2
 obtain ⟨l, hll⟩ : ∃ l, jnRecs D s.g (D.s.length - 98) 0 s.D = l := ⟨_, rfl⟩
 rw [hll]
 have HLL := Lib.hid hll
 have HOK := Lib.hid hok
 have HDL := Lib.hid hD
 have HG := Lib.hid hg
 obtain ⟨N, hN⟩ : ∃ N, D.s.length = N := ⟨_, rfl⟩
 obtain ⟨T, hT⟩ : ∃ T, T = N - 98 := ⟨_, rfl⟩
 rw [hN] at hl
 have hN256 : N ≤ 256 := by rw [← hN]; exact ((dkOk_iff D).1 hok).1
 have eT : IntKind.i64.wrap ((N : Int) - 98) = (T : Int) := by rw [IntWalk.i64_in _ (by omega)]; omega
 have eT2 : (N : Int) - 98 = (T : Int) := by omega
 have HNN := Lib.hid hN
 have HT := Lib.hid hT
 have HNL := Lib.hid (And.intro hl hN256)
 obtain ⟨K0, kc0, vs0, hc0, hss0⟩ := qV.out.c0
 rw [hN] at hc0
 obtain ⟨V3, hV3⟩ : ∃ W, W = V2.setRow V.heap.size (dgA s.D) := ⟨_, rfl⟩
 have HV3 := Lib.hid hV3
 have R3 : Hid (V3.heap[V.heap.size]? = some (.cells (dgA s.D) 30 (0, 0))) := by rw [hV3]; exact Lib.hid (setRow_heap _ _ _ _ _ _ r2.out)
 have B3 : Hid (Below V.heap.size V V3) := by rw [hV3]; exact Lib.hid (below_setRow b2 (Nat.le_refl _) _)
 replace hc0 := (B3.out.cell (p := ⟨w.heap.size, 0, none⟩) (by show w.heap.size < V.heap.size; omega)).trans hc0
 clear hV3 hV rV zV hV2 hll hok hD hg hN hT v hss0
 go_enter Tryz.func72, Tryz.ntmps72
 go_wp2_with (first
  | (rw [← HV.out])
  | (refine wpList_load_mid rfl 30 _ rfl (w.heap.size + 1) 3 rfl (s.D.map vB) _ (sup_dig RV.out) Tryz.underlying30 rfl (by rw [List.length_map, HDL.out]; kernel_rfl) ?_)
  | (rw [HD0.out, ← HV2.out]; refine dig_store rfl _ _ rfl V.heap.size rfl s.D D0 rfl 30 r2.out HDL.out hD0s ?_; rw [← HV3.out]))
 go_loopw [5, 18] (RrI w V V.heap.size D s.g T l) (fun _ i _ => T - (intOf i).toNat)
 case atStart => exact ⟨0, none, 0, [], s.D, by omega, rfl, rfl, owR_nil _ _, R3.out, HDL.out, by rw [← HLL.out, HNN.out, HT.out]; rfl, B3.out⟩
 case round =>
  obtain ⟨k, A, c, done, P, hk, rfl, rfl, hown, hbox, hPl, hrest, hB⟩ := hrel
  by_cases hlt : k < T
  ·have hNl := HNL.out
   have hTT := HT.out
   obtain ⟨pk, hpk⟩ : ∃ q, q = 98 + k := ⟨98 + k, rfl⟩
   have e1 : IntKind.i64.wrap (98 + (k : Int)) = (pk : Int) := by rw [IntWalk.i64_in _ (by omega)]; omega
   have e2 : 98 + (k : Int) = (pk : Int) := by omega
   have e3 : IntKind.u32.wrap (k : Int) = (k : Int) := by rw [IntKind.wrap_u32]; omega
   have k1 : (k : Int) < (T : Int) := by omega
   have C1 := Lib.hid (vRead (qV.out.up hB).2 (pk : Int) (by omega))
   rw [dkAsk_in D HOK.out pk (by rw [HNN.out]; omega)] at C1
   obtain ⟨RD, hRD⟩ : ∃ q, dkRead D (pk : Int) = q := ⟨_, rfl⟩
   rw [hRD] at C1
   have hstep : jnRecs D s.g (T - k) k P = if rcFolE P s.g k RD = 0 then rcGet RD :: jnRecs D s.g (T - (k + 1)) (k + 1) (rcGet RD).D else [] := by
    rw [show T - k = (T - (k + 1)) + 1 by omega]
    show (if rcFolE P s.g k (dkRead D (98 + (k : Int))) = 0 then _ else _) = _
    rw [show (98 : Int) + (k : Int) = (pk : Int) by omega, hRD]
   rw [hstep] at hrest
   have QB := Lib.hid (qV.out.up hB)
   have HRE := Lib.hid hrest
   have HBX := Lib.hid hbox
   have HPL := Lib.hid hPl
   have HOW := Lib.hid hown
   have hk256 : k < 256 := by omega
   clear hrest hbox hPl hown hpk hTT hNl hstep hRD
   have g0 : wr.cell? ⟨w.heap.size + 1, 0, none⟩ = some (.int .u32 (s.g : Int)) := (cell_of_row wr _ 0 _ _ _ (drw_up RV.out hB)).trans (suV0 ..)
   go_wp2_with (refine dk_load rfl _ rfl rfl QB.out ?_)
   refine C1.out.mono ?_
   rintro e w3 ⟨A3, n3, c3, rfl, o3, b3⟩
   have O3 := Lib.hid o3.rd
   have g3 : w3.cell? ⟨w.heap.size + 1, 0, none⟩ = some (.int .u32 (s.g : Int)) := (cell_of_row w3 _ 0 _ _ _ (drw_up (drw_up RV.out hB) b3)).trans (suV0 ..)
   have BX3 := Lib.hid (drw_up HBX.out b3)
   clear g0 o3
   go_wp2_with (refine dig_load rfl _ rfl V.heap.size rfl P 30 BX3.out HPL.out ?_)
   refine (recFollow_any P HPL.out s.g k A3 n3 c3 RD w3 O3.out).mono ?_
   rintro e w4 ⟨A4, n4, c4, rfl, r4, z4, b4⟩
   obtain ⟨R, hR⟩ : ∃ q, rcFol P s.g k RD = q := ⟨_, rfl⟩
   obtain ⟨E, hE⟩ : ∃ q, rcFolE P s.g k RD = q := ⟨_, rfl⟩
   rw [hR] at r4 ⊢
   rw [hE] at HRE ⊢
   have hRok : R.ok := by
    rw [← hR]; unfold rcFol; split
    ·exact (rcGet_okk RD).1
    ·exact rcZ_ok
   have HRO := Lib.hid hRok
   have B4 := Lib.hid (below_then hB (below_then b3 b4))
   have R4 := Lib.hid r4
   have Z4 := Lib.hid z4
   have OW4 := Lib.hid ((HOW.out.below b3).below b4)
   have BX4 := Lib.hid (drw_up BX3.out b4)
   have hzz := ZV.out
   have HZZ := Lib.hid hzz
   clear hzz
   by_cases hE0 : E = 0
   ·subst hE0
    have hRg : R = rcGet RD := by rw [← hR]; unfold rcFol; rw [if_pos hE]
    rw [if_pos rfl, ← hRg] at HRE
    have hw34 : w3.heap.size ≤ w4.heap.size := b4.size
    have hVw3 : V.heap.size + 1 ≤ w3.heap.size := drw_lt BX3.out
    clear hR hE hRok r4 z4 hRg g3
    have hub : V.heap.size + 1 ≤ w4.heap.size := by omega
    obtain ⟨us, u1, u2⟩ := OW4.out
    have U := Lib.hid (And.intro u1 u2)
    have HW3 := Lib.hid (And.intro hw34 hVw3)
    obtain ⟨K1, hK1⟩ : ∃ q, q = k + 1 := ⟨_, rfl⟩
    have e6 : (k : Int) + 1 = (K1 : Int) := by omega
    have HK1 := Lib.hid hK1
    clear u1 u2 hw34 hVw3 hK1
    go_wp2_with (first
     | (refine rc_fresh rfl _ _ rfl rfl rfl w4 rfl rfl HRO.out.2.2.2.2.2.2 ?_; intro X5 q5 x5)
     | (refine rc_load rfl _ rfl rfl q5.out HRO.out.2.2.2.2.2.2 ?_)
     | (refine wp_litR rfl _ rfl rfl HRO.out.2.2.2.2.2.2 ?_; intro X6 r6 b6)
     | (at_builtin; refine wp_appR rfl _ _ rfl (V.heap.size + 1) _ k us rfl (own_up (own_up U.out.1 x5) b6) _ 1 1 (rcV R A4 n4 c4) rfl (.inr ⟨_, 0, rfl, drw_lt r6, fun i v hv => by rw [cell_of_row X6 _ (0 + i) _ _ _ r6]; simpa using hv⟩) (by rw [rcV_len _ _ _ _ HRO.out.2.2.2.2.2.2]) (rcV_one _ _ _ _) (by omega) (by have := x5.size; have := b6.size; omega) K1 _ HK1.out.symm rfl ?_; intro A7 c7 w7 ho7 hg7 hn7
        have hg7' : X6.grownBy w7 (Value.slice A k c).ownBlock := hg7
        have Q7 : Hid (RcAt w7 w4.heap.size R A4 n4 c4) := Lib.hid ((hg7'.block _ (by have := drw_lt q5.out; have := b6.size; omega) (fun e => by have := (U.out.1.lt _ e.symm).2; omega)).trans (drw_up q5.out b6))
        have X7 : Hid (w7.heap[V.heap.size]? = some (.cells (dgA P) 30 (0, 0))) := Lib.hid ((hg7'.block _ (by have := x5.size; have := b6.size; omega) (fun e => by have := (U.out.1.lt _ e.symm).1; omega)).trans (drw_up (drw_up BX4.out x5) b6)))
     | (refine wpList_load_mid rfl 30 _ rfl w4.heap.size 7 rfl (R.D.map vB) _ (rd_range (Q7.out.dig HRO.out.2.2.2.2.2.2)) Tryz.underlying30 rfl (by rw [List.length_map, HRO.out.2.2.2.2.2.2]; kernel_rfl) ?_)
     | (refine dig_store rfl _ _ rfl V.heap.size rfl R.D (dgA P) rfl 30 X7.out HRO.out.2.2.2.2.2.2 (by rw [dgA_size, HPL.out]) ?_))
    go_roundw
    case rel =>
     have hn7' : (Value.slice A7 K1 c7).ownBlock = (Value.slice A k c).ownBlock ∨ (Value.slice A7 K1 c7).ownBlock = some X6.heap.size := hn7
     have hk1 := HK1.out
     subst hk1
     have h56 := below_then x5 b6
     obtain ⟨us', v1, _⟩ := HOW.out
     have hz6 : 0 < n4 → ∀ a, A4 = some a → V.heap.size + 1 ≤ a.block ∧ (Value.slice A k c).ownBlock ≠ some a.block := fun hm a ha => by
      have h1 := Z4.out hm a ha
      have h2 := HW3.out
      refine ⟨by omega, fun e => ?_⟩
      have h3 := (v1.lt _ e).2
      have h4 := b3.size
      omega
     have hJ7 := OwR.app (U.out.2.keep (w' := X6) (Z' := (Value.slice A k c).ownBlock) (fun B m d xs hx hz => ⟨hx.below h56, hz⟩)) ho7 hg7' HRO.out (R4.out.below h56) hz6 hn7'
     have hb7 : Below V.heap.size V w7 := (below_then B4.out h56).grown hg7' (below_then B4.out h56).size (fun q hq => by have := (U.out.1.lt _ hq).1; omega)
     refine ⟨k + 1, A7, c7, done ++ [R], R.D, by omega, rfl, by go_num, ?_, setRow_heap _ _ _ _ _ _ X7.out, HRO.out.2.2.2.2.2.2, by rw [HRE.out]; simp, below_setRow hb7 (Nat.le_refl _) _⟩
     exact hJ7.agr (P := fun j => j = V.heap.size) ⟨by simp, fun j _ hn => setRow_other _ _ _ _ hn⟩ (fun j hj => by omega)
    case measure => simp [intOf, e6]; omega
   ·have e5 : (E != 0) = true := by simpa using hE0
    rw [if_neg hE0, List.append_nil] at HRE
    clear hR hE hRok r4 z4 g3 hE0
    go_wp2_with (refine rc_fresh rfl _ _ rfl rfl rfl w4 rfl rfl HRO.out.2.2.2.2.2.2 ?_; intro X5 q5 x5)
    go_ret
    refine ⟨A, k, c, rfl, ?_, below_then (below_then bV B4.out) x5⟩
    rw [HRE.out]
    exact (OW4.out.below x5).mono (by have := HZZ.out; omega)
  ·obtain rfl : k = T := by omega
   have e0 : jnRecs D s.g (k - k) k P = [] := by rw [Nat.sub_self]; rfl
   rw [e0, List.append_nil] at hrest
   have HRE := Lib.hid hrest
   have HOW := Lib.hid hown
   clear hrest hown e0 hbox
   have zz := ZV.out
   go_wp2_with fail
   go_ret
   refine ⟨A, k, c, rfl, ?_, below_then bV hB⟩
   rw [HRE.out]
   exact HOW.out.mono (by omega)
set_option maxHeartbeats 8000000
def chStep (X : List UInt8) (h : Nat) (q : Bool × Su) : Bool × Su := if suGood X h = true ∧ (q.1 = false ∨ q.2.g < (suGet X).g) then (true, suGet X) else q
def chAt (a b : List UInt8) : Nat → Bool × Su
 | 0 => (false, suZ)
 | k + 1 => chStep (if k = 0 then a else b) k (chAt a b k)
theorem chAt_two (a b : List UInt8) : suChE a b = (if (chAt a b 2).1 = true then 0 else 7) ∧ suCh a b = (if (chAt a b 2).1 = true then (chAt a b 2).2 else suZ) := by
 have e : chAt a b 2 = chStep b 1 (chStep a 0 (false, suZ)) := rfl
 rw [e]
 unfold suChE suCh chStep
 cases ha : suGood a 0 <;> cases hb : suGood b 1
 ·simp
 ·simp
 ·simp
 ·have h1 := of_decide_eq_true ha
  have h2 := of_decide_eq_true hb
  by_cases hlt : (suGet a).g < (suGet b).g
  ·have : ¬ (suGet b).g < (suGet a).g := by omega
   simp [hlt, this]
  ·have : (suGet b).g < (suGet a).g := by omega
   simp [hlt, this]
theorem chStep_len (X : List UInt8) (h : Nat) (q : Bool × Su) (hq : q.2.D.length = 32) : (chStep X h q).2.D.length = 32 := by
 unfold chStep; split
 ·exact suGet_len _
 ·exact hq
theorem chStep_g (X : List UInt8) (h : Nat) (q : Bool × Su) (hq : q.2.g < 4294967296) : (chStep X h q).2.g < 4294967296 := by
 unfold chStep; split
 ·exact (suGet_bounds _).1
 ·exact hq
theorem chAt_len (a b : List UInt8) : ∀ k, (chAt a b k).2.D.length = 32
 | 0 => rfl
 | k + 1 => chStep_len _ _ _ (chAt_len a b k)
theorem chAt_g (a b : List UInt8) : ∀ k, (chAt a b k).2.g < 4294967296
 | 0 => by simp [chAt, suZ]
 | k + 1 => chStep_g _ _ _ (chAt_g a b k)
theorem allocZ (w : World) : (w.alloc (.cells zz1 33)).heap[w.heap.size]? = some (.cells suZ.v 33 (0, 0)) := by rw [suZ_v]; exact row1 ..
theorem Su.size (x y : Su) (h : x.D.length = 32) (k : y.D.length = 32) : x.v.size = y.v.size := by unfold Su.v; rw [suVn, suVn, h, k]
theorem Su.cell0 {w : World} {g : Nat} {x : Su} {T : TypeId} {m : Nat × Nat} (h : w.heap[g]? = some (.cells x.v T m)) : w.cell? ⟨g, 0, none⟩ = some (.int .u32 x.g) := (cell_of_row w _ 0 _ _ _ h).trans (suV0 ..)
theorem storedZ {w V : World} (cs : Array Value) (h : V = (w.alloc (.cells zz1 33)).setRow w.heap.size cs) :
  V.heap[w.heap.size]? = some (.cells cs 33 (0, 0)) ∧ Below w.heap.size w V ∧ V.heap.size = w.heap.size + 1 := by
 subst h
 exact ⟨setRow_heap _ _ _ cs _ _ (allocZ w), below_setRow ((below_self w).alloc (Nat.le_refl _) _) (Nat.le_refl _) _, by simp⟩
def ChI (w : World) (g6 : Nat) (a b : List UInt8) (v7 v15 : Value) (wr : World) : Prop :=
 ∃ k : Nat, k ≤ 2 ∧ v15 = .int .i64 k ∧ v7 = .bool (chAt a b k).1 ∧ wr.heap[g6]? = some (.cells (chAt a b k).2.v 33 (0, 0)) ∧ wr.heap[w.heap.size]? = some (.cells suZ.v 33 (0, 0)) ∧ Below w.heap.size w wr ∧ g6 < wr.heap.size
theorem suChoose_any (A : Option Addr) (n c : Nat) (xs : List UInt8) (B : Option Addr) (m d : Nat) (ys : List UInt8) (w : World) (ha : RdB w A n c xs) (hb : RdB w B m d ys) :
  Calls Tryz.prog 70 #[.slice A n c, .slice B m d] w (RetSu w (suCh xs ys) (suChE xs ys)) := by
 have i0 : ∀ W : World, (Instr.index 158 (.agg #[.slice A n c, .slice B m d]) (.int .i64 ((0 : Nat) : Int))).run Tryz.prog W = .ok (.slice A n c) W := fun _ => by kernel_rfl
 have i1 : ∀ W : World, (Instr.index 158 (.agg #[.slice A n c, .slice B m d]) (.int .i64 ((1 : Nat) : Int))).run Tryz.prog W = .ok (.slice B m d) W := fun _ => by kernel_rfl
 have I0 := Lib.hid i0
 have I1 := Lib.hid i1
 clear i0 i1
 go_enter Tryz.func70, Tryz.ntmps70
 go_wp2_with fail
 obtain ⟨W, hW⟩ : ∃ W, W = (w.alloc (.cells zz1 33)).alloc (.cells zz1 33) := ⟨_, rfl⟩
 have bW : Below w.heap.size w W := by rw [hW]; exact ((below_self w).alloc (Nat.le_refl _) _).alloc (by simp) _
 have h4 : W.heap[w.heap.size]? = some (.cells suZ.v 33 (0, 0)) := by rw [hW, suZ_v]; exact row2a ..
 have h6 : W.heap[w.heap.size + 1]? = some (.cells suZ.v 33 (0, 0)) := by rw [hW, suZ_v]; exact row2b ..
 have hz : w.heap.size + 1 < W.heap.size := by rw [hW]; simp
 rw [← hW]
 clear hW
 go_loopw [7, 15] (ChI w (w.heap.size + 1) xs ys) (fun _ i _ => 2 - (intOf i).toNat)
 case atStart => exact ⟨0, by omega, rfl, rfl, h6, h4, bW, hz⟩
 case round =>
  obtain ⟨k, hk, rfl, rfl, hrow6, hrow4, hbr, hzr⟩ := hrel
  have hln := chAt_len xs ys k
  have hg9 := chAt_g xs ys k
  by_cases hlt : k < 2
  ·obtain ⟨X, hX⟩ : ∃ X, (if k = 0 then xs else ys) = X := ⟨_, rfl⟩
   have hx : ∃ AX nX cX, RdB wr AX nX cX X ∧ ∀ W : World, (Instr.index 158 (.agg #[.slice A n c, .slice B m d]) (.int .i64 (k : Int))).run Tryz.prog W = .ok (.slice AX nX cX) W := by
    rcases (by omega : k = 0 ∨ k = 1) with rfl | rfl
    ·exact ⟨A, n, c, hX ▸ ha.below hbr, I0.out⟩
    ·exact ⟨B, m, d, hX ▸ hb.below hbr, I1.out⟩
   obtain ⟨AX, nX, cX, hrX, iX⟩ := hx
   have hnext : chAt xs ys (k + 1) = chStep X k (chAt xs ys k) := by rw [chAt, hX]
   generalize chAt xs ys k = q at *
   obtain ⟨F, Bq⟩ := q
   simp only at hln hg9 hrow6 ⊢
   have HN := Lib.hid hnext
   have HL := Lib.hid hln
   have H6 := Lib.hid hrow6
   have H4 := Lib.hid hrow4
   clear hX hnext hln hrow6 hrow4 h4 h6 hz
   obtain ⟨x, hxx⟩ : ∃ x, suGet X = x := ⟨_, rfl⟩
   obtain ⟨E, hE⟩ : ∃ E, suGetE X = E := ⟨_, rfl⟩
   have hxl := suGet_len X
   have hxg := (suGet_bounds X).1
   rw [hxx] at hxl hxg
   have hgood : suGood X k = decide (E = 0 ∧ x.g % 2 = k) := by unfold suGood; rw [hxx, hE]
   have hh := suGet_any AX nX cX X wr hrX
   rw [hxx, hE] at hh
   have HH := Lib.hid hh
   have HG := Lib.hid hgood
   have HX := Lib.hid hxx
   have HXL := Lib.hid hxl
   clear hh hgood hxx hE hxl
   go_wp2_with fail
   refine HH.out.mono ?_
   rintro e w1 ⟨rfl, hb1⟩
   have z1 := hb1.size
   have r6 := (hb1.block _ hzr).trans H6.out
   have r4 := (hb1.block _ (by omega)).trans H4.out
   have R6 := Lib.hid r6
   have R4 := Lib.hid r4
   have HAZ := Lib.hid (allocZ w1)
   clear r6 r4
   by_cases he : E = 0
   ·subst he
    by_cases hp : x.g % 2 = k
    ·have hgd : suGood X k = true := by rw [HG.out]; exact decide_eq_true ⟨rfl, hp⟩
     have hq : (((x.g % 2 : Nat) : Int) != (k : Int)) = false := by rw [hp]; simp
     have HGD := Lib.hid hgd
     clear hgd hp
     go_wp2_with (refine wpList_store_row rfl 33 _ _ rfl w1.heap.size x.v rfl rfl 33 suZ.v HAZ.out (x.info HXL.out) (Su.size _ _ suZ_len HXL.out) (suV_one ..) ?_; obtain ⟨V, hV⟩ : ∃ V, V = (w1.alloc (.cells zz1 33)).setRow w1.heap.size x.v := ⟨_, rfl⟩; rw [← hV]; obtain ⟨hVr, hVb, hVz⟩ := storedZ _ hV; have cV := Su.cell0 hVr; have HVR := Lib.hid hVr; clear hV hVr)
     refine (suHome_any x.g V hxg).mono ?_
     rintro e w2 ⟨rfl, rfl⟩
     have r6V := (hVb.block _ (by omega)).trans R6.out
     have r4V := (hVb.block _ (by omega)).trans R4.out
     have R6V := Lib.hid r6V
     have R4V := Lib.hid r4V
     have c6V := Su.cell0 r6V
     have BV := below_then hbr (below_then hb1 hVb)
     have hzV : w.heap.size + 1 < V.heap.size := by omega
     clear r6V r4V
     cases F with
     | false =>
      have hst : chStep X k (false, Bq) = (true, x) := by unfold chStep; rw [if_pos ⟨HGD.out, .inl rfl⟩, HX.out]
      have HST := Lib.hid hst
      clear hst
      go_wp2_with (first
       | (refine wpList_load_row rfl 33 _ rfl w1.heap.size rfl 33 x.v (0, 0) _ HVR.out Tryz.underlying33 rfl (x.info HXL.out) ?_)
       | (refine wpList_store_row rfl 33 _ _ rfl (w.heap.size + 1) x.v rfl rfl 33 Bq.v R6V.out (x.info HXL.out) (Su.size _ _ HL.out HXL.out) (suV_one ..) ?_))
      go_roundw
      case rel => exact ⟨k + 1, by omega, by go_num, by rw [HN.out, HST.out], by rw [HN.out, HST.out]; exact setRow_heap _ _ _ x.v _ _ R6V.out, (setRow_other _ _ _ _ (by omega)).trans R4V.out, below_setRow BV (by omega) _, by simp; omega⟩
      case measure => simp [intOf]; omega
     | true =>
      by_cases hgt : Bq.g < x.g
      ·have hst : chStep X k (true, Bq) = (true, x) := by unfold chStep; rw [if_pos ⟨HGD.out, .inr (by rw [HX.out]; exact hgt)⟩, HX.out]
       have HST := Lib.hid hst
       have dg : decide ((Bq.g : Int) < (x.g : Int)) = true := decide_eq_true (by omega)
       have dgn : decide (Bq.g < x.g) = true := decide_eq_true hgt
       clear hst hgt
       go_wp2_with (first
        | (refine wpList_load_row rfl 33 _ rfl w1.heap.size rfl 33 x.v (0, 0) _ HVR.out Tryz.underlying33 rfl (x.info HXL.out) ?_)
        | (refine wpList_store_row rfl 33 _ _ rfl (w.heap.size + 1) x.v rfl rfl 33 Bq.v R6V.out (x.info HXL.out) (Su.size _ _ HL.out HXL.out) (suV_one ..) ?_))
       go_roundw
       case rel => exact ⟨k + 1, by omega, by go_num, by rw [HN.out, HST.out], by rw [HN.out, HST.out]; exact setRow_heap _ _ _ x.v _ _ R6V.out, (setRow_other _ _ _ _ (by omega)).trans R4V.out, below_setRow BV (by omega) _, by simp; omega⟩
       case measure => simp [intOf]; omega
      ·have hst : chStep X k (true, Bq) = (true, Bq) := by unfold chStep; rw [if_neg (fun h => h.2.elim (fun h => by cases h) (fun h => hgt (by rw [HX.out] at h; exact h)))]
       have HST := Lib.hid hst
       have dg : decide ((Bq.g : Int) < (x.g : Int)) = false := decide_eq_false (by omega)
       have dgn : decide (Bq.g < x.g) = false := decide_eq_false hgt
       clear hst hgt
       go_wp2
       go_roundw
       case rel => exact ⟨k + 1, by omega, by go_num, by rw [HN.out, HST.out], by rw [HN.out, HST.out]; exact R6V.out, R4V.out, BV, hzV⟩
       case measure => simp [intOf]; omega
    ·have hgd : suGood X k = false := by rw [HG.out]; exact decide_eq_false (fun h => hp h.2)
     have hq : (((x.g % 2 : Nat) : Int) != (k : Int)) = true := by rw [bne_iff_ne]; omega
     have hst : chStep X k (F, Bq) = (F, Bq) := by unfold chStep; rw [if_neg (fun h => by rw [hgd] at h; cases h.1)]
     have HST := Lib.hid hst
     clear hgd hp hst
     go_wp2_with (refine wpList_store_row rfl 33 _ _ rfl w1.heap.size x.v rfl rfl 33 suZ.v HAZ.out (x.info HXL.out) (Su.size _ _ suZ_len HXL.out) (suV_one ..) ?_; obtain ⟨V, hV⟩ : ∃ V, V = (w1.alloc (.cells zz1 33)).setRow w1.heap.size x.v := ⟨_, rfl⟩; rw [← hV]; obtain ⟨hVr, hVb, hVz⟩ := storedZ _ hV; have cV := Su.cell0 hVr; have HVR := Lib.hid hVr; clear hV hVr)
     refine (suHome_any x.g V hxg).mono ?_
     rintro e w2 ⟨rfl, rfl⟩
     have r6V := (hVb.block _ (by omega)).trans R6.out
     have r4V := (hVb.block _ (by omega)).trans R4.out
     have R6V := Lib.hid r6V
     have R4V := Lib.hid r4V
     have BV := below_then hbr (below_then hb1 hVb)
     have hzV : w.heap.size + 1 < V.heap.size := by omega
     clear r6V r4V
     go_wp2
     go_roundw
     case rel => exact ⟨k + 1, by omega, by go_num, by rw [HN.out, HST.out], by rw [HN.out, HST.out]; exact R6V.out, R4V.out, BV, hzV⟩
     case measure => simp [intOf]; omega
   ·have hgd : suGood X k = false := by rw [HG.out]; exact decide_eq_false (fun h => he h.1)
    have hq : (E != 0) = true := by rw [bne_iff_ne]; exact he
    have hst : chStep X k (F, Bq) = (F, Bq) := by unfold chStep; rw [if_neg (fun h => by rw [hgd] at h; cases h.1)]
    have HST := Lib.hid hst
    clear hgd he hst
    go_wp2_with (refine wpList_store_row rfl 33 _ _ rfl w1.heap.size x.v rfl rfl 33 suZ.v HAZ.out (x.info HXL.out) (Su.size _ _ suZ_len HXL.out) (suV_one ..) ?_; obtain ⟨V, hV⟩ : ∃ V, V = (w1.alloc (.cells zz1 33)).setRow w1.heap.size x.v := ⟨_, rfl⟩; rw [← hV]; obtain ⟨hVr, hVb, hVz⟩ := storedZ _ hV; have cV := Su.cell0 hVr; have HVR := Lib.hid hVr; clear hV hVr)
    go_roundw
    have r6V := (hVb.block _ (by omega)).trans R6.out
    have r4V := (hVb.block _ (by omega)).trans R4.out
    have BV := below_then hbr (below_then hb1 hVb)
    case rel => exact ⟨k + 1, by omega, by go_num, by rw [HN.out, HST.out], by rw [HN.out, HST.out]; exact r6V, r4V, BV, by omega⟩
    case measure => simp [intOf]; omega
  ·obtain rfl : k = 2 := by omega
   obtain ⟨e1, e2⟩ := chAt_two xs ys
   generalize chAt xs ys 2 = q at *
   obtain ⟨F, Bq⟩ := q
   simp only at hln hg9 hrow6 e1 e2 ⊢
   have H6 := Lib.hid hrow6
   have H4 := Lib.hid hrow4
   have HL := Lib.hid hln
   cases F with
   | true =>
    have E1 := Lib.hid (e1.trans (if_pos rfl))
    have E2 := Lib.hid (e2.trans (if_pos rfl))
    clear hln hrow6 hrow4 h4 h6 hz e1 e2
    go_wp2_with (first
     | (refine wpList_load_row rfl 33 _ rfl (w.heap.size + 1) rfl 33 Bq.v (0, 0) _ H6.out Tryz.underlying33 rfl (Bq.info HL.out) ?_)
     | (refine wpList_store_row rfl 33 _ _ rfl w.heap.size Bq.v rfl rfl 33 suZ.v H4.out (Bq.info HL.out) (Su.size _ _ suZ_len HL.out) (suV_one ..) ?_))
    refine bodyPost_ret (results_row_tmp Tryz.results70 _ _ w.heap.size 33 Bq.v (0, 0) _ rfl (setRow_heap _ _ _ Bq.v _ _ H4.out) Tryz.underlying33 rfl (Bq.info HL.out)) rfl ?_
    exact ⟨by rw [E1.out, E2.out]; rfl, below_setRow hbr (Nat.le_refl _) _⟩
   | false =>
    have E1 := Lib.hid (e1.trans (if_neg (by decide)))
    have E2 := Lib.hid (e2.trans (if_neg (by decide)))
    clear hln hrow6 hrow4 h4 h6 hz e1 e2
    go_wp2_with (refine wpList_store_row rfl 33 _ _ rfl w.heap.size suZ.v rfl rfl 33 suZ.v H4.out (suZ.info suZ_len) rfl (suV_one ..) ?_)
    refine bodyPost_ret (results_row_tmp Tryz.results70 _ _ w.heap.size 33 suZ.v (0, 0) _ rfl (setRow_heap _ _ _ suZ.v _ _ H4.out) Tryz.underlying33 rfl (suZ.info suZ_len)) rfl ?_
    exact ⟨by rw [E1.out, E2.out]; rfl, below_setRow hbr (Nat.le_refl _) _⟩
set_option maxHeartbeats 8000000
section
variable {ops : Array Oper} {rest : List Oper} {o : Oper} {a : Act} {w : World} {Q : Exit → Act → World → Prop}
theorem su_load (hgd : o.guard = none) (x : Operand) (ho : o.op = .load 33 x) (h : Nat) (hx : a.eval x = .pointer (some ⟨h, 0, none⟩)) (y : Su) (hrow : w.heap[h]? = some (.cells y.v 33 (0, 0))) (hl : y.D.length = 32)
  (hK : wpList Tryz.prog ops Q rest (a.put o.dst (.agg y.v)) w) : wpList Tryz.prog ops Q (o :: rest) a w :=
 wpList_load_row hgd 33 x ho h hx 33 y.v (0, 0) _ hrow Tryz.underlying33 rfl (y.info hl) hK
theorem su_store (hgd : o.guard = none) (x z : Operand) (ho : o.op = .store 33 x z) (h : Nat) (hx : a.eval x = .pointer (some ⟨h, 0, none⟩)) (y old : Su) (hz : a.eval z = .agg y.v) (hrow : w.heap[h]? = some (.cells old.v 33 (0, 0))) (hl : y.D.length = 32) (ho2 : old.D.length = 32)
  (hK : wpList Tryz.prog ops Q rest (a.put o.dst undef) (w.setRow h y.v)) : wpList Tryz.prog ops Q (o :: rest) a w :=
 wpList_store_row hgd 33 x z ho h y.v hx hz 33 old.v hrow (y.info hl) (Su.size _ _ ho2 hl) (suV_one ..) hK
end
set_option maxHeartbeats 8000000
def RetLd (w : World) (S : Su) (st : List UInt8) (rs : List Rc) (er : Int) (e : Ending) (w' : World) : Prop := ∃ A n c B m d, e = .returned (.tuple #[.agg S.v, .slice A n c, .slice B m d, .int .i64 er]) ∧ OwnB w' w.heap.size A n c st ∧ OwR w' w.heap.size B m d rs ∧ Below w.heap.size w w'
theorem retLd_none {w X : World} (er : Int) (hb : Below w.heap.size w X) : RetLd w suZ [] [] er (.returned (.tuple #[.agg suZ.v, .slice none 0 0, .slice none 0 0, .int .i64 er])) X := ⟨none, 0, 0, none, 0, 0, rfl, OwnB.nilB _ _, owR_nil _ _, hb⟩
theorem dresults1333 {P : Program} {fn : Func} {p q s u : Tmp} {ty : TypeId} (h : fn.results = #[.cell p ty, .tmp q, .tmp s, .tmp u]) (tmps : Array Value) (w : World) (g : Nat) (t : TypeId) (cs : Array Value) (fr : Nat × Nat) (d : TypeDesc)
  (hp : tmps.getD p undef = .pointer (some ⟨g, 0, none⟩)) (hg : w.heap[g]? = some (.cells cs t fr))
  (hu : P.underlying ty = some d) (hd : (match d with | .struct _ | .array _ _ => true | _ => false) = true) (hi : (P.info? ty).map (·.size) = some cs.size) :
  (results fn tmps).run P w = .ok (.tuple #[.agg cs, tmps.getD q undef, tmps.getD s undef, tmps.getD u undef]) w := by
 have hp' : tmps[p]?.getD undef = .pointer (some ⟨g, 0, none⟩) := by simpa using hp
 simp [results, h, hp', asAddr, run_loadVar_row w g t ty cs fr d hg hu hd hi]
theorem suNoneB (w : World) : (Instr.build 33 #[]).run Tryz.prog w = .ok (.agg suZ.v) w := run_build w _ _ _ (by show Tryz.prog.built _ _ = some _; kernel_rfl)
theorem suZ_32 : suZ.D.length = 32 := rfl
set_option maxRecDepth 100000 in
theorem jrnLoad_form (AV : Array Value) (D : Dk) (w : World) (v : DkVal AV w D) (er : Int) (h : (dkOk D = false ∧ er = 3) ∨ (dkOk D = true ∧ D.s.length < 98 ∧ er = 5)) :
  Calls Tryz.prog 31 #[.agg AV] w (RetLd w suZ [] [] er) := by
 obtain ⟨Z0, hZ0⟩ : ∃ Z0 : Array Value, #[.int .u32 0, .int .i64 0, .int .i64 0, .int .u8 0, .int .u8 0, .int .u8 0, .int .u8 0, .int .u8 0, .int .u8 0, .int .u8 0, .int .u8 0, .int .u8 0, .int .u8 0, .int .u8 0, .int .u8 0, .int .u8 0, .int .u8 0, .int .u8 0, .int .u8 0, .int .u8 0, .int .u8 0, .int .u8 0, .int .u8 0, .int .u8 0, .int .u8 0, .int .u8 0, .int .u8 0, .int .u8 0, .int .u8 0, .int .u8 0, .int .u8 0, .int .u8 0, .int .u8 0, .int .u8 0, .int .u8 0] = Z0 := ⟨_, rfl⟩
 have hZe : Z0 = suZ.v := by rw [← hZ0]; rfl
 have HZ0 := Lib.hid hZ0
 obtain ⟨V, hV⟩ : ∃ V, V = (w.alloc (.cells AV 40)).alloc (.cells Z0 33) := ⟨_, rfl⟩
 have bV : Below w.heap.size w V := by rw [hV]; exact ((below_self w).alloc (Nat.le_refl _) _).alloc (by simp) _
 have zV : Hid (V.heap.size = w.heap.size + 2) := by rw [hV]; exact Lib.hid (by simp)
 have qV : Hid (DkV V w.heap.size AV D) := Lib.hid ⟨by rw [hV]; exact drw_old _ (drw_at _ rfl), v.below bV⟩
 have rV : Hid (V.heap[w.heap.size + 1]? = some (.cells suZ.v 33 (0, 0))) := by rw [hV, hZe]; exact Lib.hid (drw_at _ (by simp))
 have HV := Lib.hid hV
 have C1 := Lib.hid (vCheck qV.out.2)
 obtain ⟨NV, hNV⟩ : ∃ z, z = suZ.v := ⟨_, rfl⟩
 have NB := Lib.hid suNoneB
 rw [← hNV] at NB
 have HNV := Lib.hid hNV
 have hs63 : ∃ K0 kc0 vs0, V.cell? ⟨w.heap.size, 0, none⟩ = some (.slice K0 D.s.length kc0) ∧ RdSS V K0 D.s.length kc0 vs0 D.s := qV.out.c0
 have HS := Lib.hid hs63
 clear hV hZ0 hZe v hNV hs63
 rcases h with ⟨h, rfl⟩ | ⟨h, h2, rfl⟩
 ·rw [h] at C1
  clear h
  go_enter Tryz.func31, Tryz.ntmps31
  go_wp2_with (first | (rw [HZ0.out, ← HV.out]) | (refine dk_load rfl _ rfl rfl qV.out ?_))
  refine C1.out.mono ?_
  rintro e w1 ⟨rfl, hb1⟩
  have r1 := Lib.hid (drw_up rV.out hb1)
  go_wp2_with (first | (refine wpList_of_exec rfl (rex_build rfl #[] rfl (NB.out _)) ?_) | (refine su_store rfl _ _ rfl (w.heap.size + 1) rfl suZ suZ (congrArg Value.agg HNV.out) r1.out suZ_32 suZ_32 ?_))
  refine bodyPost_ret (dresults1333 Tryz.results31 _ _ (w.heap.size + 1) 33 suZ.v (0, 0) _ rfl (setRow_heap _ _ _ suZ.v _ _ r1.out) Tryz.underlying33 rfl (suZ.info suZ_32)) rfl ?_
  exact retLd_none _ (below_setRow (below_then bV hb1) (by omega) _)
 ·rw [h] at C1
  clear h
  have d1 : decide ((D.s.length : Int) < 98) = true := decide_eq_true (by omega)
  have d2 : D.s.length < 98 := h2
  go_enter Tryz.func31, Tryz.ntmps31
  go_wp2_with (first | (rw [HZ0.out, ← HV.out]) | (refine dk_load rfl _ rfl rfl qV.out ?_))
  refine C1.out.mono ?_
  rintro e w1 ⟨rfl, hb1⟩
  have r1 := Lib.hid (drw_up rV.out hb1)
  obtain ⟨K0, kc0, vs0, hc0, _⟩ := (qV.out.up hb1).c0
  go_wp2_with (first | (refine wpList_of_exec rfl (rex_build rfl #[] rfl (NB.out _)) ?_) | (refine su_store rfl _ _ rfl (w.heap.size + 1) rfl suZ suZ (congrArg Value.agg HNV.out) r1.out suZ_32 suZ_32 ?_))
  refine bodyPost_ret (dresults1333 Tryz.results31 _ _ (w.heap.size + 1) 33 suZ.v (0, 0) _ rfl (setRow_heap _ _ _ suZ.v _ _ r1.out) Tryz.underlying33 rfl (suZ.info suZ_32)) rfl ?_
  exact retLd_none _ (below_setRow (below_then bV hb1) (by omega) _)
theorem dgs_eq (P Q : List UInt8) (hP : P.length = 32) (hQ : Q.length = 32) (W : World) : (Op.equalIn 10000 30 (.agg (dgA P)) (.agg (dgA Q))).run Tryz.prog W = .ok (decide (P = Q)) W := run_eqIn_digest 9996 W P Q hP hQ
theorem suCh_chk (a b : List UInt8) (h : suChE a b = 0) : suCheck (suCh a b).s (suCh a b).l = true := by
 have hg : ∀ x k, suGood x k = true → suCheck (suGet x).s (suGet x).l = true := fun x k hx => (suGet_ok x (of_decide_eq_true hx).1).2.2.2.1
 unfold suChE at h
 split at h
 ·rename_i hc
  unfold suCh
  split
  ·rename_i h1; exact hg _ _ h1.1
  ·split
   ·rename_i h1; exact hg _ _ h1
   ·rename_i h1 h2
    exfalso
    rcases hc with hc | hc
    ·exact h1 ⟨hc, .inl (by simpa using h2)⟩
    ·exact h2 hc
 ·cases h
set_option maxRecDepth 100000 in
theorem jrnLoad_go (AV : Array Value) (D : Dk) (w : World) (v : DkVal AV w D) (hok : dkOk D = true) (hl : 98 ≤ D.s.length) :
  Calls Tryz.prog 31 #[.agg AV] w (fun e w' =>
   (suChE (dkRead D 0) (dkRead D 1) ≠ 0 → RetLd w suZ [] [] (suChE (dkRead D 0) (dkRead D 1)) e w') ∧
   (suChE (dkRead D 0) (dkRead D 1) = 0 → jnBase (jnHad D (jnLoadS D)) ≠ (jnLoadS D).D → RetLd w suZ [] [] 6 e w') ∧
   (suChE (dkRead D 0) (dkRead D 1) = 0 → jnBase (jnHad D (jnLoadS D)) = (jnLoadS D).D → RetLd w (jnLoadS D) (jnHad D (jnLoadS D)) (jnLoadR D) 0 e w')) := by
 obtain ⟨Z0, hZ0⟩ : ∃ Z0 : Array Value, #[.int .u32 0, .int .i64 0, .int .i64 0, .int .u8 0, .int .u8 0, .int .u8 0, .int .u8 0, .int .u8 0, .int .u8 0, .int .u8 0, .int .u8 0, .int .u8 0, .int .u8 0, .int .u8 0, .int .u8 0, .int .u8 0, .int .u8 0, .int .u8 0, .int .u8 0, .int .u8 0, .int .u8 0, .int .u8 0, .int .u8 0, .int .u8 0, .int .u8 0, .int .u8 0, .int .u8 0, .int .u8 0, .int .u8 0, .int .u8 0, .int .u8 0, .int .u8 0, .int .u8 0, .int .u8 0, .int .u8 0] = Z0 := ⟨_, rfl⟩
 have hZe : Z0 = suZ.v := by rw [← hZ0]; rfl
 have HZ0 := Lib.hid hZ0
 have HZE := Lib.hid hZe
 obtain ⟨V, hV⟩ : ∃ V, V = (w.alloc (.cells AV 40)).alloc (.cells Z0 33) := ⟨_, rfl⟩
 have bV : Below w.heap.size w V := by rw [hV]; exact ((below_self w).alloc (Nat.le_refl _) _).alloc (by simp) _
 have zV : Hid (V.heap.size = w.heap.size + 2) := by rw [hV]; exact Lib.hid (by simp)
 have qV : Hid (DkV V w.heap.size AV D) := Lib.hid ⟨by rw [hV]; exact drw_old _ (drw_at _ rfl), v.below bV⟩
 have rV : Hid (V.heap[w.heap.size + 1]? = some (.cells suZ.v 33 (0, 0))) := by rw [hV, hZe]; exact Lib.hid (drw_at _ (by simp))
 have HV := Lib.hid hV
 have C1 := Lib.hid (vCheck qV.out.2)
 rw [hok] at C1
 have C2 := Lib.hid (fun W (u : DkVal AV W D) => vRead u 0 (by omega))
 have C3 := Lib.hid (fun W (u : DkVal AV W D) => vRead u 1 (by omega))
 rw [show dkAsk D 0 = 0 from dkAsk_in D hok 0 (by omega)] at C2
 rw [show dkAsk D 1 = 0 from dkAsk_in D hok 1 (by omega)] at C3
 obtain ⟨X0, hX0⟩ : ∃ q, dkRead D 0 = q := ⟨_, rfl⟩
 obtain ⟨X1, hX1⟩ : ∃ q, dkRead D 1 = q := ⟨_, rfl⟩
 obtain ⟨SU, hSU⟩ : ∃ q, jnLoadS D = q := ⟨_, rfl⟩
 have hSU2 : suCh X0 X1 = SU := by rw [← hX0, ← hX1]; exact hSU
 rw [hX0] at C2 ⊢
 rw [hX1] at C3 ⊢
 rw [hSU]
 obtain ⟨E, hE⟩ : ∃ q, suChE X0 X1 = q := ⟨_, rfl⟩
 rw [hE]
 have C4 := Lib.hid (fun (A B : Option Addr) (n c m d : Nat) W (a : RdB W A n c X0) (b : RdB W B m d X1) => suChoose_any A n c X0 B m d X1 W a b)
 rw [hSU2, hE] at C4
 obtain ⟨NV, hNV⟩ : ∃ z, z = suZ.v := ⟨_, rfl⟩
 have NB := Lib.hid suNoneB
 rw [← hNV] at NB
 have HNV := Lib.hid hNV
 have d1 : decide ((D.s.length : Int) < 98) = false := decide_eq_false (by omega)
 have d2 : ¬ D.s.length < 98 := by omega
 have hSUl : SU.D.length = 32 ∧ SU.g < 4294967296 := by
  rw [← hSU2]; unfold suCh
  split
  ·exact ⟨suGet_len _, (suGet_bounds _).1⟩
  ·split
   ·exact ⟨suGet_len _, (suGet_bounds _).1⟩
   ·exact ⟨rfl, by decide⟩
 have HSL := Lib.hid hSUl
 have HOK := Lib.hid hok
 have HLN := Lib.hid hl
 have HE := Lib.hid hE
 have HSU := Lib.hid hSU
 have HSU2 := Lib.hid hSU2
 clear hV hZ0 hZe v hNV hX0 hX1 hSU hSU2 hE hSUl hok hl
 go_enter Tryz.func31, Tryz.ntmps31
 go_wp2_with (first | (rw [HZ0.out, ← HV.out]) | (refine dk_load rfl _ rfl rfl qV.out ?_))
 refine C1.out.mono ?_
 rintro e w1 ⟨rfl, hb1⟩
 have q1 := Lib.hid (qV.out.up hb1)
 obtain ⟨K0, kc0, vs0, hc0, hss⟩ := q1.out.c0
 clear hss
 go_wp2_with (refine dk_load rfl _ rfl rfl q1.out ?_)
 refine (C2.out w1 q1.out.2).mono ?_
 rintro e w2 ⟨A2, n2, c2, rfl, o2, b2⟩
 have q2 := Lib.hid (q1.out.up b2)
 have O2 := Lib.hid o2.rd
 clear o2 hc0
 go_wp2_with (refine dk_load rfl _ rfl rfl q2.out ?_)
 refine (C3.out w2 q2.out.2).mono ?_
 rintro e w3 ⟨A3, n3, c3, rfl, o3, b3⟩
 have q3 := Lib.hid (q2.out.up b3)
 have O3 := Lib.hid o3.rd
 clear o3
 go_wp2_with fail
 refine (C4.out A2 A3 n2 c2 n3 c3 w3 (O2.out.below b3) O3.out).mono ?_
 rintro e w4 ⟨rfl, b4⟩
 have r4 := Lib.hid (drw_up (drw_up (drw_up (drw_up rV.out hb1) b2) b3) b4)
 have q4 := Lib.hid (q3.out.up b4)
 have B4 := Lib.hid (below_then bV (below_then hb1 (below_then b2 (below_then b3 b4))))
 obtain ⟨V5, hV5⟩ : ∃ W, W = w4.alloc (.cells Z0 33) := ⟨_, rfl⟩
 have b5 : Below w4.heap.size w4 V5 := by rw [hV5]; exact (below_self w4).alloc (Nat.le_refl _) _
 have r5 : Hid (V5.heap[w4.heap.size]? = some (.cells suZ.v 33 (0, 0))) := by rw [hV5, HZE.out]; exact Lib.hid (drw_at _ rfl)
 have HV5 := Lib.hid hV5
 obtain ⟨V6, hV6⟩ : ∃ W, W = V5.setRow w4.heap.size SU.v := ⟨_, rfl⟩
 have s6 : Hid (V6.heap[w4.heap.size]? = some (.cells SU.v 33 (0, 0))) := by rw [hV6]; exact Lib.hid (setRow_heap _ _ _ _ _ _ r5.out)
 have b6 : Below w4.heap.size w4 V6 := by rw [hV6]; exact below_setRow b5 (Nat.le_refl _) _
 have HV6 := Lib.hid hV6
 have q6 := Lib.hid (q4.out.up b6)
 have r6 := Lib.hid (drw_up r4.out b6)
 have B6 := Lib.hid (below_then B4.out b6)
 clear hV5 hV6
 by_cases hE0 : E = 0
 ·subst hE0
  have hck : suCheck SU.s SU.l = true := by rw [← HSU2.out]; exact suCh_chk _ _ HE.out
  have HCK := Lib.hid hck
  clear hck
  go_wp2_with (first | (rw [HZ0.out, ← HV5.out]; refine su_store rfl _ _ rfl w4.heap.size rfl SU suZ rfl r5.out HSL.out.1 suZ_32 ?_; rw [← HV6.out]) | (refine dk_load rfl _ rfl rfl q6.out ?_) | (refine su_load rfl _ rfl w4.heap.size rfl SU s6.out HSL.out.1 ?_))
  refine (jrnState_any AV D SU V6 q6.out.2 HOK.out HLN.out HCK.out HSL.out.1).mono ?_
  rintro e w7 ⟨A7, n7, c7, rfl, o7, b7⟩
  have q7 := Lib.hid (q6.out.up b7)
  have s7 := Lib.hid (drw_up s6.out b7)
  have r7 := Lib.hid (drw_up r6.out b7)
  have B7 := Lib.hid (below_then B6.out b7)
  obtain ⟨HA, hHA⟩ : ∃ q, jnHad D SU = q := ⟨_, rfl⟩
  rw [hHA] at o7
  have O7 := Lib.hid o7
  have HHA := Lib.hid hHA
  have hn7 : n7 ≤ 12288 := by
   have h1 := o7.len
   have h2 := of_decide_eq_true HCK.out
   rw [← h1, ← hHA]; unfold jnHad; rw [List.length_take]; omega
  obtain ⟨BD, hBD⟩ : ∃ q, jnBase HA = q := ⟨jnBase HA, rfl⟩
  have C8 := Lib.hid (fun W (h : RdB W A7 n7 c7 HA) => jrnBase_any A7 n7 c7 HA W h (by omega))
  rw [hBD] at C8
  have HBD := Lib.hid hBD
  have hBl : BD.length = 32 := by rw [← hBD]; exact shOf_len _
  have HBL := Lib.hid hBl
  clear o7 hHA hBD hBl
  have lo7 : w.heap.size + 1 < w4.heap.size := drw_lt r4.out
  by_cases hd : BD = SU.D
  ·have HD := Lib.hid hd
   have eq1 : ∀ W : World, (Op.equalIn 10000 30 (.agg (dgA BD)) (.agg (dgA SU.D))).run Tryz.prog W = .ok true W := fun W => by have := dgs_eq BD SU.D HBL.out HSL.out.1 W; rw [decide_eq_true hd] at this; exact this
   have EQ := Lib.hid eq1
   clear eq1 hd
   go_wp2_with fail
   refine wp_region_seg (S := fun w' => Below w7.heap.size w7 w') 0 #[true, true, true, true, true] [(0, true), (2, true), (3, true), (1, false), (4, true)] (by kernel_rfl) (by kernel_rfl) (fun _ _ d _ _ h => by first | (cases d <;> exact h) | cases h.1) ((Below.refl w7.heap.size w7).drew) ?_
   have HB := (Below.refl w7.heap.size w7).drew
   iterate 2 (refine seg_take (v := ?_) rfl (Or.inl ⟨by rfl, ?_⟩) ?_; rotate_left; (focus (intro w' hw'; go_simp <;> with_reducible rfl)); try simp only [Act.put, pst3])
   refine seg_take (v := .agg (dgA SU.D)) rfl (Or.inl ⟨by rfl, fun w' hw' => ?_⟩) ?_
   focus (exact rex_load rfl rfl (run_loadVar_mid w' w4.heap.size 3 30 (SU.D.map vB) _ (sup_dig (drw_up s7.out hw')) Tryz.underlying30 rfl (by rw [List.length_map, HSL.out.1]; kernel_rfl)))
   try simp only [Act.put, pst3]
   refine seg_run rfl (fun K hK => ?_)
   go_simp
   refine (C8.out _ (O7.out.rd.below HB)).mono ?_
   rintro e_ wA ⟨rfl, hbA⟩
   have HB := below_then HB hbA
   refine hK.out _ _ (HB) ?_
   clear hK
   try simp only [Act.put, pst3]
   refine seg_take (v := .bool false) rfl (Or.inl ⟨by rfl, fun w' hw' => ?_⟩) ?_
   focus (have hq := EQ.out w'; go_simp)
   try simp only [Act.put, pst3]
   refine seg_done (fun _ => ?_)
   refine wpAnyH_done (by kernel_rfl) ?_ _
   skip
   have BA := Lib.hid HB
   have q8 := Lib.hid (drw_up q7.out.1 HB)
   have v8 := Lib.hid (q7.out.2.below HB)
   have s8 := Lib.hid (drw_up s7.out HB)
   have r8 := Lib.hid (drw_up r7.out HB)
   have O8 := Lib.hid (O7.out.upB HB)
   have C9 := Lib.hid (fun W (u : DkVal AV W D) => jrnRecords_any AV D SU W u HOK.out HLN.out HSL.out.2 HSL.out.1)
   go_wp2_with fail
   refine wp_region_seg (S := fun w' => w'.heap[w.heap.size]? = some (.cells AV 40 (0, 0)) ∧ w'.heap[w4.heap.size]? = some (.cells SU.v 33 (0, 0))) 0 (brw9 9 511) [(0, true), (1, true), (2, true), (3, true), (4, false), (5, false), (6, true), (7, true), (8, true)] (by kernel_rfl) (by kernel_rfl) (fun _ _ d _ _ h => by first | (cases d <;> exact h) | cases h.1) (And.intro q8.out s8.out) ?_
   have HB := And.intro q8.out s8.out
   refine seg_take (v := .agg SU.v) rfl (Or.inl ⟨by rfl, fun w' hw' => ?_⟩) ?_
   focus (exact rex_load rfl rfl (run_loadVar_row w' w4.heap.size 33 33 _ (0, 0) _ hw'.2 Tryz.underlying33 rfl (SU.info HSL.out.1)))
   try simp only [Act.put, pst3]
   iterate 1 (refine seg_take (v := ?_) rfl (Or.inl ⟨by rfl, ?_⟩) ?_; rotate_left; (focus (intro w' hw'; go_simp <;> with_reducible rfl)); try simp only [Act.put, pst3])
   refine seg_take (v := .agg AV) rfl (Or.inl ⟨by rfl, fun w' hw' => ?_⟩) ?_
   focus (exact rex_load rfl rfl (run_loadVar_row w' w.heap.size 40 40 _ (0, 0) _ hw'.1 Tryz.underlying40 rfl v8.out.info))
   try simp only [Act.put, pst3]
   refine seg_take (v := .agg SU.v) rfl (Or.inl ⟨by rfl, fun w' hw' => ?_⟩) ?_
   focus (exact rex_load rfl rfl (run_loadVar_row w' w4.heap.size 33 33 _ (0, 0) _ hw'.2 Tryz.underlying33 rfl (SU.info HSL.out.1)))
   try simp only [Act.put, pst3]
   refine seg_run rfl (fun K hK => ?_)
   go_simp
   refine (C9.out wA.drew (v8.out.below (Below.refl _ wA).drew)).mono ?_
   rintro e_ wB ⟨A9, n9, c9, rfl, o9, b9⟩
   have HB := And.intro ((b9.block _ (drw_lt HB.1)).trans HB.1) ((b9.block _ (drw_lt HB.2)).trans HB.2)
   refine hK.out _ _ (HB) ?_
   clear hK
   try simp only [Act.put, pst3]
   refine seg_run rfl (fun K hK => ?_)
   rw [if_pos (by rfl)]
   refine wp_store_row 33 _ _ rfl (w.heap.size + 1) SU.v rfl rfl 33 suZ.v ((b9.block _ (drw_lt r8.out)).trans r8.out) (SU.info HSL.out.1) (Su.size _ _ suZ_32 HSL.out.1) (suV_one ..) ?_
   have HB := And.intro ((setRow_other wB (w.heap.size + 1) w.heap.size SU.v (by omega)).trans HB.1) ((setRow_other wB (w.heap.size + 1) w4.heap.size SU.v (by omega)).trans HB.2)
   refine hK.out _ _ (HB) ?_
   clear hK
   try simp only [Act.put, pst3]
   iterate 3 (refine seg_take (v := ?_) rfl (Or.inl ⟨by rfl, ?_⟩) ?_; rotate_left; (focus (intro w' hw'; go_simp <;> with_reducible rfl)); try simp only [Act.put, pst3])
   refine seg_done (fun _ => ?_)
   refine wpAnyH_done (by kernel_rfl) ?_ _
   skip
   go_wp2_with fail
   refine bodyPost_ret (dresults1333 Tryz.results31 _ _ (w.heap.size + 1) 33 SU.v (0, 0) _ rfl (setRow_heap _ _ _ SU.v _ _ ((b9.block _ (drw_lt r8.out)).trans r8.out)) Tryz.underlying33 rfl (SU.info HSL.out.1)) rfl ?_
   have hsB : V6.heap.size + 0 ≤ wA.heap.size := by have := b7.size; have := BA.out.size; omega
   have hb0 : w.heap.size + 2 ≤ V6.heap.size := by have := b6.size; omega
   have bX : Below w.heap.size w (wB.setRow (w.heap.size + 1) SU.v) := below_setRow (below_then (below_then B7.out BA.out).drew b9) (by omega) _
   have hag : AgrP (fun j => j = w.heap.size + 1) wB (wB.setRow (w.heap.size + 1) SU.v) := ⟨by simp, fun j _ hn => setRow_other _ _ _ _ hn⟩
   refine ⟨fun h => absurd (by rw [HHA.out, HBD.out]; exact HD.out) h, fun _ => ⟨A7, n7, c7, A9, n9, c9, rfl, ?_, ?_, bX⟩⟩
   ·rw [HHA.out]
    have o1 : OwnB wB V6.heap.size A7 n7 c7 HA := OwnB.upB (w := wA.drew) O8.out b9
    have o2 : OwnB (wB.setRow (w.heap.size + 1) SU.v) V6.heap.size A7 n7 c7 HA := own_agr0 o1 hag (fun j hj => by omega)
    exact own_mono o2 (by omega)
   ·unfold jnLoadR
    rw [HSU.out]
    exact (o9.agr hag (fun j hj => by have : wA.drew.heap.size = wA.heap.size := rfl; omega)).mono (by have : wA.drew.heap.size = wA.heap.size := rfl; omega)
  ·have HD := Lib.hid hd
   have eq1 : ∀ W : World, (Op.equalIn 10000 30 (.agg (dgA BD)) (.agg (dgA SU.D))).run Tryz.prog W = .ok false W := fun W => by have := dgs_eq BD SU.D HBL.out HSL.out.1 W; rw [decide_eq_false hd] at this; exact this
   have EQ := Lib.hid eq1
   clear eq1 hd
   go_wp2_with fail
   refine wp_region_seg (S := fun w' => Below w7.heap.size w7 w') 0 #[true, true, true, true, true] [(0, true), (2, true), (3, true), (1, false), (4, true)] (by kernel_rfl) (by kernel_rfl) (fun _ _ d _ _ h => by first | (cases d <;> exact h) | cases h.1) ((Below.refl w7.heap.size w7).drew) ?_
   have HB := (Below.refl w7.heap.size w7).drew
   iterate 2 (refine seg_take (v := ?_) rfl (Or.inl ⟨by rfl, ?_⟩) ?_; rotate_left; (focus (intro w' hw'; go_simp <;> with_reducible rfl)); try simp only [Act.put, pst3])
   refine seg_take (v := .agg (dgA SU.D)) rfl (Or.inl ⟨by rfl, fun w' hw' => ?_⟩) ?_
   focus (exact rex_load rfl rfl (run_loadVar_mid w' w4.heap.size 3 30 (SU.D.map vB) _ (sup_dig (drw_up s7.out hw')) Tryz.underlying30 rfl (by rw [List.length_map, HSL.out.1]; kernel_rfl)))
   try simp only [Act.put, pst3]
   refine seg_run rfl (fun K hK => ?_)
   go_simp
   refine (C8.out _ (O7.out.rd.below HB)).mono ?_
   rintro e_ wA ⟨rfl, hbA⟩
   have HB := below_then HB hbA
   refine hK.out _ _ (HB) ?_
   clear hK
   try simp only [Act.put, pst3]
   refine seg_take (v := .bool true) rfl (Or.inl ⟨by rfl, fun w' hw' => ?_⟩) ?_
   focus (have hq := EQ.out w'; go_simp)
   try simp only [Act.put, pst3]
   refine seg_done (fun _ => ?_)
   refine wpAnyH_done (by kernel_rfl) ?_ _
   skip
   have BA := Lib.hid HB
   have r8 := Lib.hid (drw_up r7.out HB)
   go_wp2_with (first | (refine wpList_of_exec rfl (rex_build rfl #[] rfl (NB.out _)) ?_) | (refine su_store rfl _ _ rfl (w.heap.size + 1) rfl suZ suZ (congrArg Value.agg HNV.out) r8.out suZ_32 suZ_32 ?_))
   refine bodyPost_ret (dresults1333 Tryz.results31 _ _ (w.heap.size + 1) 33 suZ.v (0, 0) _ rfl (setRow_heap _ _ _ suZ.v _ _ r8.out) Tryz.underlying33 rfl (suZ.info suZ_32)) rfl ?_
   refine ⟨fun _ => retLd_none _ (below_setRow (below_then B7.out BA.out) (by omega) _), fun h => absurd (by rw [← HBD.out, ← HHA.out]; exact h) HD.out⟩
 ·have e5 : (E != 0) = true := by simpa using hE0
  have HE0 := Lib.hid hE0
  clear hE0
  go_wp2_with (first | (rw [HZ0.out, ← HV5.out]; refine su_store rfl _ _ rfl w4.heap.size rfl SU suZ rfl r5.out HSL.out.1 suZ_32 ?_; rw [← HV6.out]) | (refine wpList_of_exec rfl (rex_build rfl #[] rfl (NB.out _)) ?_) | (refine su_store rfl _ _ rfl (w.heap.size + 1) rfl suZ suZ (congrArg Value.agg HNV.out) r6.out suZ_32 suZ_32 ?_))
  refine bodyPost_ret (dresults1333 Tryz.results31 _ _ (w.heap.size + 1) 33 suZ.v (0, 0) _ rfl (setRow_heap _ _ _ suZ.v _ _ r6.out) Tryz.underlying33 rfl (suZ.info suZ_32)) rfl ?_
  exact ⟨fun _ => retLd_none _ (below_setRow B6.out (by omega) _), fun h => absurd h HE0.out, fun h => absurd h HE0.out⟩
theorem jrnLoad_any (AV : Array Value) (D : Dk) (w : World) (v : DkVal AV w D) :
  Calls Tryz.prog 31 #[.agg AV] w (fun e w' => (jnLoadE D = 0 → RetLd w (jnLoadS D) (jnHad D (jnLoadS D)) (jnLoadR D) 0 e w') ∧ (jnLoadE D ≠ 0 → RetLd w suZ [] [] (jnLoadE D) e w')) := by
 cases hok : dkOk D with
 | false =>
  have e : jnLoadE D = 3 := by unfold jnLoadE; rw [if_pos hok]
  rw [e]
  exact (jrnLoad_form AV D w v 3 (.inl ⟨hok, rfl⟩)).mono fun _ _ h => ⟨fun h3 => absurd h3 (by decide), fun _ => h⟩
 | true =>
  by_cases hl : D.s.length < 98
  ·have e : jnLoadE D = 5 := by unfold jnLoadE; rw [if_neg (by simp [hok]), if_pos hl]
   rw [e]
   exact (jrnLoad_form AV D w v 5 (.inr ⟨hok, hl, rfl⟩)).mono fun _ _ h => ⟨fun h3 => absurd h3 (by decide), fun _ => h⟩
  ·refine (jrnLoad_go AV D w v hok (by omega)).mono fun e w' ⟨h1, h2, h3⟩ => ?_
   by_cases hE : suChE (dkRead D 0) (dkRead D 1) = 0
   ·by_cases hB : jnBase (jnHad D (jnLoadS D)) = (jnLoadS D).D
    ·have e : jnLoadE D = 0 := by unfold jnLoadE; rw [if_neg (by simp [hok]), if_neg hl, if_neg (fun h => h hE), if_neg (fun h => h hB)]
     rw [e]
     exact ⟨fun _ => h3 hE hB, fun h => absurd rfl h⟩
    ·have e : jnLoadE D = 6 := by unfold jnLoadE; rw [if_neg (by simp [hok]), if_neg hl, if_neg (fun h => h hE), if_pos hB]
     rw [e]
     exact ⟨fun h => absurd h (by decide), fun _ => h2 hE hB⟩
   ·have e : jnLoadE D = suChE (dkRead D 0) (dkRead D 1) := by unfold jnLoadE; rw [if_neg (by simp [hok]), if_neg hl, if_pos hE]
    rw [e]
    exact ⟨fun h => absurd h hE, fun _ => h1 hE⟩
end Go.Proofs.YtpahicfnhhhifaaGreat
