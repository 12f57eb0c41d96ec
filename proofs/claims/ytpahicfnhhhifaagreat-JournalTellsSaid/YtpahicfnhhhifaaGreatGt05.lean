/-
 Proved here, for the statement JournalTells:
 Digests, and heads, compared.
 '[]byte(constant)' among other operations: a mark behind the row's end.
-/
import Derived.DeepKeys
import Derived.Test.YtpahicfnhhhifaaGreatGt04
set_option linter.unusedVariables false
set_option linter.unusedSimpArgs false
namespace Go.Proofs.YtpahicfnhhhifaaGreat
set_option maxRecDepth 20000
open Go.RowKit
set_option maxHeartbeats 2000000
theorem mapM_some {β : Type} (f : Nat → Option β) (g : Nat → β) : ∀ (is : List Nat), (∀ i ∈ is, f i = some (g i)) → is.mapM f = some (is.map g)
 | [], _ => rfl
 | i :: is, h => by rw [List.mapM_cons, h i (by simp), mapM_some f g is (fun j hj => h j (by simp [hj]))]; rfl
def litB (u : UInt8) : Lit := .int .u8 (u.toNat : Int)
theorem litB_inj (D E : List UInt8) : D.map litB = E.map litB ↔ D = E :=
 List.map_inj_right (fun a b hab => by
  unfold litB at hab
  injection hab with _ h2
  exact UInt8.toNat_inj.1 (by omega))
theorem keyLits_u8 (d : Nat) (u : UInt8) : Tryz.prog.keyLits (d + 1) 5 [vB u] = some [litB u] := by
 have := u.toNat_lt
 unfold Program.keyLits vB litB
 rw [Tryz.underlying5]
 simp [Lit.wf, IntKind.min, IntKind.max, IntKind.signed, IntKind.bits]
 omega
theorem flat_single (D : List UInt8) (f : UInt8 → Lit) : ((List.range D.length).map fun i => [f (D.getD i 0)]).flatten = D.map f := by
 rw [← List.flatMap_def, ← List.map_eq_flatMap]
 apply List.ext_getElem
 ·simp
 ·intro i h1 h2
  have : i < D.length := by simpa using h2
  simp [List.getD, this]
theorem keyLits_digest (d : Nat) (D : List UInt8) (h : D.length = 32) : Tryz.prog.keyLits (d + 2) 30 (D.map vB) = some (D.map litB) := by
 have c1 : Tryz.prog.cellsOf 5 = 1 := by kernel_rfl
 have c2 : Tryz.prog.cellsOf 30 = 32 := by kernel_rfl
 unfold Program.keyLits
 rw [Tryz.underlying30]
 simp only []
 rw [if_pos (by rw [c2, List.length_map, h])]
 rw [mapM_some _ (fun i => [litB (D.getD i 0)]) (List.range 32) (fun i hi => ?_)]
 ·have e := flat_single D litB
  rw [h] at e
  rw [Option.map_some, e]
 ·have hi' : i < D.length := by rw [h]; simpa using hi
  rw [c1, Nat.mul_one, List.drop_eq_getElem_cons (by simpa using hi')]
  simp only [List.getElem_map, List.take_succ_cons, List.take_zero]
  rw [keyLits_u8]
  simp [List.getD, hi']
theorem formed_digest (D : List UInt8) (h : D.length = 32) : (Value.agg (D.map vB).toArray).formed Tryz.prog 30 = true := by
 have c2 : Tryz.prog.cellsOf 30 = 32 := by kernel_rfl
 unfold Value.formed; rw [Tryz.underlying30]
 simp [c2, h]
theorem run_eqIn_digest (d : Nat) (w : World) (D E : List UInt8) (hD : D.length = 32) (hE : E.length = 32) : (Op.equalIn (d + 4) 30 (.agg (D.map vB).toArray) (.agg (E.map vB).toArray)).run Tryz.prog w = .ok (decide (D = E)) w := by
 obtain ⟨r, hr, hiff⟩ := run_equalIn_deep (P := Tryz.prog) d 4 30 (by kernel_rfl) w 2 2 _ _ _ _ (formed_digest D hD) (formed_digest E hE) (keyLits_digest 0 D hD) (keyLits_digest 0 E hE)
 rw [hr]
 rw [litB_inj] at hiff
 congr 1
 rw [Bool.eq_iff_iff, hiff]; simp
def Su.v (x : Su) : Array Value := suV x.g x.s x.l x.D
def Su.ok (x : Su) : Prop := x.g < 4294967296 ∧ (-9223372036854775808 ≤ x.s ∧ x.s ≤ 9223372036854775807) ∧ (-9223372036854775808 ≤ x.l ∧ x.l ≤ 9223372036854775807) ∧ x.D.length = 32
def Su.lits (x : Su) : List Lit := [[.int .u32 (x.g : Int)], [.int .i64 x.s], [.int .i64 x.l], x.D.map litB].flatten
theorem Su.lits_inj (x y : Su) : x.lits = y.lits ↔ x = y := by
 constructor
 ·intro h
  obtain ⟨g, s, l, D⟩ := x
  obtain ⟨g', s', l', D'⟩ := y
  simp only [Su.lits, List.flatten_cons, List.flatten_nil, List.cons_append, List.nil_append, List.append_nil, List.cons.injEq, Lit.int.injEq, true_and, litB_inj] at h
  obtain ⟨h1, h2, h3, h4⟩ := h
  rw [h2, h3, h4, show g = g' by omega]
 ·rintro rfl; rfl
theorem keyLits_su (x : Su) (h : x.ok) : Tryz.prog.keyLits 4 33 x.v.toList = some x.lits := by
 obtain ⟨g, s, l, D⟩ := x
 obtain ⟨h1, h2, h3, h4⟩ := h
 simp only at h1 h2 h3 h4
 have c0 : Tryz.prog.cellsOf 33 = 35 := by kernel_rfl
 have c1 : Tryz.prog.cellsOf 28 = 1 := by kernel_rfl
 have c2 : Tryz.prog.cellsOf 3 = 1 := by kernel_rfl
 have c3 : Tryz.prog.cellsOf 30 = 32 := by kernel_rfl
 have hv : (Su.v ⟨g, s, l, D⟩).toList = [.int .u32 g, .int .i64 s, .int .i64 l] ++ D.map vB := by simp [Su.v, suV]
 rw [hv]
 have k0 : Tryz.prog.keyLits 3 28 [.int .u32 (g : Int)] = some [.int .u32 (g : Int)] := by
  unfold Program.keyLits; rw [Tryz.underlying28]; simp [Lit.wf, IntKind.min, IntKind.max, IntKind.signed, IntKind.bits]; omega
 have k1 : ∀ z : Int, (-9223372036854775808 ≤ z ∧ z ≤ 9223372036854775807) → Tryz.prog.keyLits 3 3 [.int .i64 z] = some [.int .i64 z] := by
  intro z hz
  unfold Program.keyLits; rw [Tryz.underlying3]; simp [Lit.wf, IntKind.min, IntKind.max, IntKind.signed, IntKind.bits]; omega
 have k3 := keyLits_digest 1 D h4
 have t1 : ∀ L : List Value, L.length = 32 → L.take 32 = L := fun L hL => List.take_of_length_le (by omega)
 unfold Program.keyLits
 rw [Tryz.underlying33]
 simp only []
 rw [if_pos ⟨by rw [c0]; simp [h4], by decide +kernel⟩]
 simp [c1, c2, c3, k0, k1 s h2, k1 l h3, t1 (D.map vB) (by simp [h4]), k3, Su.lits]
theorem formed_su (x : Su) (h : x.ok) : (Value.agg x.v).formed Tryz.prog 33 = true := by
 have c2 : Tryz.prog.cellsOf 33 = 35 := by kernel_rfl
 have hs : x.v.size = 35 := by unfold Su.v; rw [suVn, h.2.2.2]
 unfold Value.formed; rw [Tryz.underlying33]
 simp [c2, hs]
theorem run_eqIn_su (d : Nat) (w : World) (x y : Su) (hx : x.ok) (hy : y.ok) : (Op.equalIn (d + 4) 33 (.agg x.v) (.agg y.v)).run Tryz.prog w = .ok (decide (x = y)) w := by
 obtain ⟨r, hr, hiff⟩ := run_equalIn_deep (P := Tryz.prog) d 4 33 (by kernel_rfl) w 4 4 _ _ _ _ (formed_su x hx) (formed_su y hy) (keyLits_su x hx) (keyLits_su y hy)
 rw [hr]
 rw [Su.lits_inj] at hiff
 congr 1
 rw [Bool.eq_iff_iff, hiff]; simp
theorem freeze_cell (w : World) (a : Addr) (k : Nat) (p : Addr) : (w.freeze a k).cell? p = w.cell? p := by
 unfold World.freeze
 split
 ·rfl
 ·unfold World.cell?
  simp only [Array.getElem?_modify]
  by_cases h : a.block = p.block
  ·rw [if_pos h]
   cases hq : w.heap[p.block]? with
   | none => simp
   | some o => cases o <;> simp
  ·rw [if_neg h]
theorem freeze_size (w : World) (a : Addr) (k : Nat) : (w.freeze a k).heap.size = w.heap.size := by
 unfold World.freeze; split <;> simp
theorem freeze_other (w : World) (a : Addr) (k j : Nat) (h : j ≠ a.block) : (w.freeze a k).heap[j]? = w.heap[j]? := by
 unfold World.freeze
 split
 ·rfl
 ·simp only [Array.getElem?_modify]
  rw [if_neg (by omega)]
theorem freeze_below (w : World) (a : Addr) (k B : Nat) (h : B ≤ a.block) : Below B w (w.freeze a k) := by
 refine ⟨?_, ?_, ?_, by rw [freeze_size]; exact Nat.le_refl _, fun j hj => freeze_other w a k j (by omega)⟩ <;> (unfold World.freeze; split <;> rfl)
theorem run_conv_mark {w : World} {g : Nat} {C : Array Value} {fr : Nat × Nat} (hrow : w.heap[g]? = some (.cells C 5 fr)) (n c : Nat) :
  (convert 47 47 (.slice (some ⟨g, 0, none⟩) n c)).run Tryz.prog w = .ok (.slice (some ⟨g, 0, none⟩) n c) (w.freeze ⟨g, C.size, none⟩ 1) := by
 have hsh : w.shape? g = some (5, C.size) := by unfold World.shape?; rw [hrow]
 simp [convert, run_underlying Tryz.underlying47, run_underlying Tryz.underlying5, markStringish, hsh]
def SameCells (w w' : World) : Prop := (∀ p, w'.cell? p = w.cell? p) ∧ w'.heap.size = w.heap.size
theorem RdB.same {w w' : World} {A : Option Addr} {n c : Nat} {xs : List UInt8} (h : RdB w A n c xs) (hs : SameCells w w') : RdB w' A n c xs :=
 ⟨h.1.keep (by rw [hs.2]; exact Nat.le_refl _) (fun p _ => hs.1 p), h.2⟩
theorem op_mark {o : Oper} {a : Act} {Bd : Nat} {w0 w : World} {K : Act → World → Prop} {Q : Exit → Act → World → Prop} (x : Operand) (ho : o.op = .convert 47 47 x) (g n c : Nat) (hx : a.eval x = .slice (some ⟨g, 0, none⟩) n c)
  (C : Array Value) (fr : Nat × Nat) (hrow : w.heap[g]? = some (.cells C 5 fr)) (hb : Below Bd w0 w) (hg : Bd ≤ g)
  (h : ∀ w', SameCells w w' → Below Bd w0 w' → (∀ j, j ≠ g → w'.heap[j]? = w.heap[j]?) → K (a.put o.dst (.slice (some ⟨g, 0, none⟩) n c)) w') : o.wp Tryz.prog a w K Q := by
 refine op_value (v := .slice (some ⟨g, 0, none⟩) n c) (w' := w.freeze ⟨g, C.size, none⟩ 1) ?_ (h _ ⟨fun p => freeze_cell .., freeze_size ..⟩ (hb.trans (freeze_below w ⟨g, C.size, none⟩ 1 Bd hg)) (fun j hj => freeze_other w ⟨g, C.size, none⟩ 1 j hj))
 unfold execOp
 simp [ho, hx, run_conv_mark hrow n c]
theorem clamp_eq (s : Int) : max 0 (min s 8) = (clamp s : Int) := by
 unfold clamp
 split
 ·omega
 ·split <;> omega
theorem cut_any (s : Int) (w : World) : Calls Tryz.prog 134 #[.int .i64 s, .int .i64 0, .int .i64 8] w fun e w' => e = .returned (.int .i64 (clamp s : Nat)) ∧ w = w' := by
 go_enter Tryz.func134, Tryz.ntmps134
 go_wp2
 go_ret
 exact ⟨by rw [← clamp_eq]; rfl, rfl⟩
theorem pow_256 (k : Nat) : 256 ^ k = 2 ^ (8 * k) := by rw [show (256 : Nat) = 2 ^ 8 from rfl, ← Nat.pow_mul]
theorem pow_small (k : Nat) (hk : k ≤ 8) : 256 ^ k ≤ 18446744073709551616 := by
 rw [show 18446744073709551616 = 256 ^ 8 from rfl]; exact Nat.pow_le_pow_right (by decide) hk
theorem or_shl (R k u : Nat) (hR : R < 256 ^ k) (hk : k < 8) (hu : u < 256) :
  bits .or .u64 (R : Int) (IntKind.u64.wrap ((u : Int) * 2 ^ (8 * k))) = ((R + 256 ^ k * u : Nat) : Int) := by
 have hp := pow_small (k + 1) (by omega)
 have h1 : u * 256 ^ k < 256 ^ (k + 1) := by rw [Nat.pow_succ, Nat.mul_comm (256 ^ k)]; exact Nat.mul_lt_mul_of_pos_right hu (Nat.pow_pos (by decide))
 have hR' : R < 256 ^ (k + 1) := Nat.lt_of_lt_of_le hR (Nat.pow_le_pow_right (by decide) (by omega))
 have e : (u : Int) * 2 ^ (8 * k) = ((u * 256 ^ k : Nat) : Int) := by rw [pow_256]; push_cast; rfl
 rw [e, IntWalk.u64_in _ (by omega), u64_or_nat _ _ (by omega) (by omega), Nat.or_comm, nat_join (8 * k) _ _ (by rw [pow_256]; exact Nat.mul_mod_left _ _) (by rw [← pow_256]; exact hR)]
 rw [Nat.mul_comm u, Nat.add_comm]
theorem or_256 (R u : Nat) (h : R < 72057594037927936) (hu : u < 256) : bits .or .u64 ((R : Int) * 256) (u : Int) = ((R * 256 + u : Nat) : Int) := by
 have e : (R : Int) * 256 = ((R * 256 : Nat) : Int) := by omega
 have h1 : R * 256 < 18446744073709551616 := by omega
 have h2 : u < 18446744073709551616 := by omega
 have h8 : (2 : Nat) ^ 8 = 256 := by decide
 have h3 : R * 256 % 2 ^ 8 = 0 := by rw [h8]; exact Nat.mul_mod_left R 256
 have h4 : u < 2 ^ 8 := by rw [h8]; exact hu
 have hj := nat_join 8 (R * 256) u h3 h4
 rw [e, u64_or_nat _ _ h1 h2, hj]
def LeI (N : Nat) (xs : List UInt8) (v i : Value) : Prop := ∃ k, k ≤ N ∧ i = .int .i64 (k : Nat) ∧ v = .int .u64 (lev (xs.take k) : Nat)
theorem fromLe_any (A : Option Addr) (n c : Nat) (xs : List UInt8) (w : World) (hr : RdB w A n c xs) :
  Calls Tryz.prog 146 #[.slice A n c] w fun e w' => e = .returned (.int .u64 (fromLe xs : Nat)) ∧ w = w' := by
 have hn63 := hr.n63
 obtain ⟨N, hN⟩ : ∃ N, N = min n 8 := ⟨_, rfl⟩
 have hN8 : N ≤ 8 := by omega
 have hNn : N ≤ n := by omega
 have hm : min (n : Int) 8 = (N : Int) := by omega
 have hfin : fromLe xs = lev (xs.take N) := by
  unfold fromLe
  rw [hN, ← hr.2.1]
  rcases Nat.le_total xs.length 8 with h | h
  ·rw [Nat.min_eq_left h, List.take_of_length_le h, List.take_length]
  ·rw [Nat.min_eq_right h]
 have HN := Lib.hid hN
 have HF := Lib.hid hfin
 clear hN hfin
 go_enter Tryz.func146, Tryz.ntmps146
 go_wp2
 go_loop [3, 8] (LeI N xs) (fun _ i => N - (intOf i).toNat)
 case atStart => exact ⟨0, Nat.zero_le _, rfl, rfl⟩
 case round =>
  obtain ⟨k, hk, rfl, rfl⟩ := hrel
  by_cases hlt : k < N
  ·obtain ⟨b, o, u, rfl, hb, hxk, hcell⟩ := hr.at_ k (by omega)
   have hs : xs.take (k + 1) = xs.take k ++ [u] := by rw [List.take_add_one, hxk]; rfl
   have hl := lev_lt (xs.take k)
   have hlen : (xs.take k).length = k := by rw [List.length_take, hr.2.1]; omega
   rw [hlen] at hl
   have HS := Lib.hid hs
   have HL := Lib.hid hlen
   clear hs hlen hxk
   generalize hR : lev (xs.take k) = R at *
   have HR := Lib.hid hR
   clear hR
   have hu := u.toNat_lt
   go_wp2
   have e1 := or_shl R k u.toNat hl (by omega) hu
   have hfin : lev (xs.take (k + 1)) = R + 256 ^ k * u.toNat := by rw [HS.out, lev_append, HR.out, HL.out]; simp [lev]
   have HQ := Lib.hid hfin
   clear hfin
   go_wp2
   go_round
   case rel => exact ⟨k + 1, by omega, by go_num, by rw [HQ.out, e1]⟩
   case measure => simp [intOf] <;> omega
  ·obtain rfl : k = N := by omega
   go_wp2
   go_ret
   exact ⟨by rw [HF.out]; rfl, rfl⟩
theorem min_take (xs : List UInt8) (n N : Nat) (hn : xs.length = n) (hN : N = min n 8) : xs.take 8 = xs.take N := by
 rw [hN, ← hn]
 rcases Nat.le_total xs.length 8 with h | h
 ·rw [Nat.min_eq_left h, List.take_of_length_le h, List.take_length]
 ·rw [Nat.min_eq_right h]
def BeI (N : Nat) (xs : List UInt8) (v i : Value) : Prop := ∃ k, k ≤ N ∧ i = .int .i64 (k : Nat) ∧ v = .int .u64 (bev (xs.take k) : Nat)
theorem fromBe_any (A : Option Addr) (n c : Nat) (xs : List UInt8) (w : World) (hr : RdB w A n c xs) :
  Calls Tryz.prog 154 #[.slice A n c] w fun e w' => e = .returned (.int .u64 (fromBe xs : Nat)) ∧ w = w' := by
 have hn63 := hr.n63
 obtain ⟨N, hN⟩ : ∃ N, N = min n 8 := ⟨_, rfl⟩
 have hN8 : N ≤ 8 := by omega
 have hNn : N ≤ n := by omega
 have hm : min (n : Int) 8 = (N : Int) := by omega
 have hfin : fromBe xs = bev (xs.take N) := by unfold fromBe; rw [min_take xs n N hr.2.1 hN]
 have HN := Lib.hid hN
 have HF := Lib.hid hfin
 clear hN hfin
 go_enter Tryz.func154, Tryz.ntmps154
 go_wp2
 go_loop [3, 8] (BeI N xs) (fun _ i => N - (intOf i).toNat)
 case atStart => exact ⟨0, Nat.zero_le _, rfl, rfl⟩
 case round =>
  obtain ⟨k, hk, rfl, rfl⟩ := hrel
  by_cases hlt : k < N
  ·obtain ⟨b, o, u, rfl, hb, hxk, hcell⟩ := hr.at_ k (by omega)
   have hs : xs.take (k + 1) = xs.take k ++ [u] := by rw [List.take_add_one, hxk]; rfl
   have hl := bev_lt (xs.take k)
   have hlen : (xs.take k).length = k := by rw [List.length_take, hr.2.1]; omega
   rw [hlen] at hl
   have hp := pow_small (k + 1) (by omega)
   have hq : bev (xs.take (k + 1)) = bev (xs.take k) * 256 + u.toNat := by rw [hs, bev_snoc]
   have HQ := Lib.hid hq
   clear hs hlen hxk hq
   generalize hR : bev (xs.take k) = R at *
   have HR := Lib.hid hR
   clear hR
   have hu := u.toNat_lt
   have hsm : R < 72057594037927936 := by rw [Nat.pow_succ] at hp; omega
   clear hl hp
   have e1 := or_256 R u.toNat hsm hu
   go_wp2
   go_round
   case rel => exact ⟨k + 1, by omega, by go_num, by rw [HQ.out]; go_num⟩
   case measure => simp [intOf] <;> omega
  ·obtain rfl : k = N := by omega
   go_wp2
   go_ret
   exact ⟨by rw [HF.out]; rfl, rfl⟩
theorem set_le (n size k : Nat) (h : k < size) : (leB n k ++ List.replicate (size - k) 0).set k (UInt8.ofNat (n / 256 ^ k)) = leB n (k + 1) ++ List.replicate (size - (k + 1)) 0 := by
 rw [List.set_append_right _ _ (by rw [leB_length]; omega), leB_length, Nat.sub_self, leB_succ, show size - k = (size - (k + 1)) + 1 by omega, List.replicate_succ, List.set_cons_zero]
 simp
theorem set_be (n size k : Nat) (h : k < size) : (List.replicate (size - k) 0 ++ beB n k).set (size - 1 - k) (UInt8.ofNat (n / 256 ^ k)) = List.replicate (size - (k + 1)) 0 ++ beB n (k + 1) := by
 rw [List.set_append_left _ _ (by simp; omega), show size - k = (size - (k + 1)) + 1 by omega, List.replicate_succ', show size - 1 - k = (List.replicate (size - (k + 1)) (0 : UInt8)).length by simp; omega,
  List.set_append_right _ _ (Nat.le_refl _), Nat.sub_self]
 unfold beB
 rw [leB_succ]
 simp
theorem byte_val (n k : Nat) : IntKind.u8.wrap ((n : Int) / 2 ^ (8 * k)) = ((UInt8.ofNat (n / 256 ^ k)).toNat : Int) := by
 rw [IntKind.wrap_u8, UInt8.toNat_ofNat', pow_256, Int.natCast_emod, Int.natCast_ediv, Int.natCast_pow]; rfl
theorem le1_any (i : Int) (w : World) : Calls Tryz.prog 135 #[.int .i64 i] w fun e w' => e = .returned (.int .i64 i) ∧ w = w' := by
 go_enter Tryz.func135, Tryz.ntmps135
 go_wp2
 go_ret
 exact ⟨rfl, rfl⟩
theorem be1_any (i : Int) (g : Nat) (K : Int) (w : World) (hc : w.cell? ⟨g, 0, none⟩ = some (.int .i64 K)) (h1 : 0 ≤ i) (h2 : i < K) (h3 : K ≤ 8) :
  Calls Tryz.prog 141 #[.int .i64 i, .pointer (some ⟨g, 0, none⟩)] w fun e w' => e = .returned (.int .i64 (K - 1 - i)) ∧ w = w' := by
 go_enter Tryz.func141, Tryz.ntmps141
 go_wp2
 go_ret
 exact ⟨rfl, rfl⟩
def PutI (w : World) (size : Nat) (f : Nat → List UInt8) (i : Value) (wr : World) : Prop :=
 ∃ k, k ≤ size ∧ i = .int .i64 (k : Nat) ∧ OwnB wr w.heap.size (some ⟨w.heap.size, 0, none⟩) size size (f k) ∧ Below w.heap.size w wr
theorem put_le (n size : Nat) (w : World) (hn : n < 18446744073709551616) (h8 : size ≤ 8) :
  Calls Tryz.prog 133 #[.int .u64 n, .int .i64 size, .func (.func 135) #[] #[]] w (RetB w (leB n size)) := by
 go_enter Tryz.func133, Tryz.ntmps133
 go_wp2_with (at_make; refine wp_makeB rfl _ _ rfl _ _ size rfl rfl (by omega) ?_; intro w1 ho1 hb1)
 go_loopw [12] (PutI w size (fun k => leB n k ++ List.replicate (size - k) 0)) (fun i _ => size - (intOf i).toNat)
 case atStart => exact ⟨0, Nat.zero_le _, rfl, by simpa [leB_zero] using ho1, hb1⟩
 case round =>
  obtain ⟨k, hk, rfl, ho, hb⟩ := hrel
  by_cases hlt : k < size
  ·skip
   have k1 : (k : Int) < (size : Int) := by omega
   have k0 : (0 : Int) ≤ (k : Int) := by omega
   have hfree := ho.free k
   obtain ⟨u0, _, hcell⟩ := ho.cell_ k hlt
   have kw : IntKind.i64.wrap (8 * (k : Int)) = 8 * (k : Int) := IntWalk.i64_in _ (by omega)
   have kz : (8 * (k : Int)).toNat = 8 * k := by omega
   have kv := byte_val n k
   go_wp2_with fail
   refine wp_region_plan (S := fun w' => True) [(0, true), (1, true), (2, true), (4, true), (5, true), (6, true), (7, true), (8, true), (3, false), (9, true), (10, false)] (by kernel_rfl) (by kernel_rfl) (fun _ _ d _ _ h => by cases d <;> exact h) trivial ?_
   iterate 8 (refine plan_take (v := ?_) rfl (Or.inl ⟨by rfl, ?_⟩) ?_; rotate_left; (focus (intro w' hw'; go_simp <;> with_reducible rfl)); try simp only [Act.put, pst3])
   refine plan_run rfl (fun K hK => ?_)
   go_simp
   refine (le1_any (k : Int) _).mono ?_
   rintro e w2 ⟨rfl, rfl⟩
   refine hK.out _ _ trivial ?_
   clear hK
   try simp only [Act.put, pst3]
   iterate 1 (refine plan_take (v := ?_) rfl (Or.inl ⟨by rfl, ?_⟩) ?_; rotate_left; (focus (intro w' hw'; go_simp <;> with_reducible rfl)); try simp only [Act.put, pst3])
   refine plan_run rfl (fun K hK => ?_)
   go_simp
   refine hK.out _ _ trivial ?_
   clear hK
   try simp only [Act.put, pst3]
   refine plan_done ?_
   go_wp2
   go_roundw
   case rel => exact ⟨k + 1, by omega, by go_num, by have h := ho.set_ k (UInt8.ofNat (n / 256 ^ k)); rw [set_le n size k hlt] at h; exact h, hb.drew.setCell (Nat.le_refl _) _⟩
   case measure => simp [intOf] <;> omega
  ·obtain rfl : k = size := by omega
   go_wp2
   go_ret
   exact ⟨_, _, _, rfl, by simpa using ho, hb⟩
theorem put_be (n size g : Nat) (w : World) (hn : n < 18446744073709551616) (h8 : size ≤ 8) (hg : g < w.heap.size) (hc : w.cell? ⟨g, 0, none⟩ = some (.int .i64 size)) :
  Calls Tryz.prog 133 #[.int .u64 n, .int .i64 size, .func (.func 141) #[] #[.pointer (some ⟨g, 0, none⟩)]] w (RetB w (beB n size)) := by
 go_enter Tryz.func133, Tryz.ntmps133
 go_wp2_with (at_make; refine wp_makeB rfl _ _ rfl _ _ size rfl rfl (by omega) ?_; intro w1 ho1 hb1)
 go_loopw [12] (PutI w size (fun k => List.replicate (size - k) 0 ++ beB n k)) (fun i _ => size - (intOf i).toNat)
 case atStart => exact ⟨0, Nat.zero_le _, rfl, by simpa [beB, leB_zero] using ho1, hb1⟩
 case round =>
  obtain ⟨k, hk, rfl, ho, hb⟩ := hrel
  have hck : wr.cell? ⟨g, 0, none⟩ = some (.int .i64 size) := (hb.cell (p := ⟨g, 0, none⟩) hg).trans hc
  by_cases hlt : k < size
  ·obtain ⟨j, hj⟩ : ∃ j, j = size - 1 - k := ⟨_, rfl⟩
   have k1 : (k : Int) < (size : Int) := by omega
   have k0 : (0 : Int) ≤ (k : Int) := by omega
   have k2 : (size : Int) - 1 - (k : Int) = (j : Int) := by omega
   have k3 : (0 : Int) ≤ (j : Int) := by omega
   have k4 : (j : Int) < (size : Int) := by omega
   have hj' : j < size := by omega
   have hset : (List.replicate (size - k) 0 ++ beB n k).set j (UInt8.ofNat (n / 256 ^ k)) = List.replicate (size - (k + 1)) 0 ++ beB n (k + 1) := by rw [hj]; exact set_be n size k hlt
   have HT := Lib.hid hset
   clear hj hset
   have hfree := ho.free j
   obtain ⟨u0, _, hcell⟩ := ho.cell_ j hj'
   have kw : IntKind.i64.wrap (8 * (k : Int)) = 8 * (k : Int) := IntWalk.i64_in _ (by omega)
   have kz : (8 * (k : Int)).toNat = 8 * k := by omega
   have kv := byte_val n k
   go_wp2_with fail
   refine wp_region_plan (S := fun w' => True) [(0, true), (1, true), (2, true), (4, true), (5, true), (6, true), (7, true), (8, true), (3, false), (9, true), (10, false)] (by kernel_rfl) (by kernel_rfl) (fun _ _ d _ _ h => by cases d <;> exact h) trivial ?_
   iterate 8 (refine plan_take (v := ?_) rfl (Or.inl ⟨by rfl, ?_⟩) ?_; rotate_left; (focus (intro w' hw'; go_simp <;> with_reducible rfl)); try simp only [Act.put, pst3])
   refine plan_run rfl (fun K hK => ?_)
   go_simp
   refine (be1_any (k : Int) g (size : Int) _ (by exact hck) k0 k1 (by omega)).mono ?_
   rintro e w2 ⟨rfl, rfl⟩
   rw [k2]
   refine hK.out _ _ trivial ?_
   clear hK
   try simp only [Act.put, pst3]
   iterate 1 (refine plan_take (v := ?_) rfl (Or.inl ⟨by rfl, ?_⟩) ?_; rotate_left; (focus (intro w' hw'; go_simp <;> with_reducible rfl)); try simp only [Act.put, pst3])
   refine plan_run rfl (fun K hK => ?_)
   go_simp
   refine hK.out _ _ trivial ?_
   clear hK
   try simp only [Act.put, pst3]
   refine plan_done ?_
   go_wp2
   go_roundw
   case rel => exact ⟨k + 1, by omega, by go_num, by have h := ho.set_ j (UInt8.ofNat (n / 256 ^ k)); rw [HT.out] at h; exact h, hb.drew.setCell (Nat.le_refl _) _⟩
   case measure => simp [intOf] <;> omega
  ·obtain rfl : k = size := by omega
   go_wp2
   go_ret
   exact ⟨_, _, _, rfl, by simpa using ho, hb⟩
theorem le_any (n : Nat) (size : Int) (w : World) (hn : n < 18446744073709551616) :
  Calls Tryz.prog 97 #[.int .u64 n, .int .i64 size] w (RetB w (leB n (clamp size))) := by
 have h8 := clamp_le size
 go_enter Tryz.func97, Tryz.ntmps97
 go_wp2_with (first | (go_at_call 134; refine (cut_any size _).mono ?_; rintro e w1 ⟨rfl, rfl⟩) | (go_at_call 133; refine (put_le n _ _ hn h8).mono ?_; rintro e w1 ⟨A1, n1, c1, rfl, ho1, hb1⟩))
 go_ret
 exact ⟨_, _, _, rfl, ho1, hb1⟩
theorem be_any (n : Nat) (size : Int) (w : World) (hn : n < 18446744073709551616) :
  Calls Tryz.prog 106 #[.int .u64 n, .int .i64 size] w (RetB w (beB n (clamp size))) := by
 have h8 := clamp_le size
 go_enter Tryz.func106, Tryz.ntmps106
 go_wp2_with (first | (go_at_call 134; refine (cut_any size _).mono ?_; rintro e w1 ⟨rfl, rfl⟩) | (go_at_call 133; refine (put_be n _ _ _ hn h8 (by simp) (by simp)).mono ?_; rintro e w1 ⟨A1, n1, c1, rfl, ho1, hb1⟩))
 go_ret
 exact ⟨_, _, _, rfl, ho1.mono (by simp), bstep (below_self w) hb1⟩
def RLeI (w : World) (N n : Nat) (v0 v5 v6 : Value) (wr : World) : Prop :=
 ∃ k A c, k ≤ N ∧ v6 = .int .i64 (k : Nat) ∧ v0 = .int .u64 ((n / 256 ^ k : Nat) : Int) ∧ v5 = .slice A k c ∧ OwnB wr w.heap.size A k c (leB n k) ∧ Below w.heap.size w wr
theorem clamp_lt (size : Int) (k : Nat) (h : k < clamp size) : (k : Int) < size ∧ k < 8 := by
 unfold clamp at h
 split at h
 ·omega
 ·split at h <;> omega
theorem refLe_any (n : Nat) (size : Int) (w : World) (hn : n < 18446744073709551616) :
  Calls Tryz.prog 98 #[.int .u64 n, .int .i64 size] w (RetB w (leB n (clamp size))) := by
 have h8 := clamp_le size
 obtain ⟨N, hN⟩ : ∃ N, N = clamp size := ⟨_, rfl⟩
 have HN := Lib.hid hN
 rw [← hN] at h8 ⊢
 clear hN
 go_enter Tryz.func98, Tryz.ntmps98
 go_wp2
 go_loopw [0, 5, 6] (RLeI w N n) (fun _ _ i _ => N - (intOf i).toNat)
 case atStart => exact ⟨0, none, 0, Nat.zero_le _, rfl, by simp, rfl, OwnB.nilB _ _, Below.refl _ _⟩
 case round =>
  obtain ⟨k, A, c, hk, rfl, rfl, rfl, ho, hb⟩ := hrel
  by_cases hlt : k < N
  ·obtain ⟨c1, c2⟩ := clamp_lt size k (by rw [← HN.out]; exact hlt)
   have d1 : decide ((k : Int) < size) = true := decide_eq_true c1
   have d2 : decide ((k : Int) < 8) = true := decide_eq_true (by omega)
   have hM : n / 256 ^ k < 18446744073709551616 := Nat.lt_of_le_of_lt (Nat.div_le_self _ _) hn
   have hM2 : n / 256 ^ (k + 1) = n / 256 ^ k / 256 := by rw [Nat.pow_succ, Nat.div_div_eq_div_mul]
   have hleB := leB_succ n k
   have HM := Lib.hid hM2
   have HL := Lib.hid hleB
   clear hM2 hleB
   generalize hR : n / 256 ^ k = R at *
   have HR := Lib.hid hR
   clear hR c1
   go_wp2_with (at_builtin; refine wp_appB rfl _ _ rfl (hb.alloc hb.size _) (Nat.le_refl _) (by have := hb.size; simp; omega) _ _ _ _ rfl (ho.alloc _) _ 1 1 [UInt8.ofNat R] rfl (rd1 _ _ _ (by rw [UInt8.toNat_ofNat']; rfl)) (by omega) (k + 1) (leB n (k + 1)) rfl (by rw [HL.out]) ?_; intro A5 c5 w5 ho5 hb5 hg5)
   go_roundw
   case rel => exact ⟨k + 1, _, _, by omega, by go_num, by rw [HM.out]; go_num, rfl, ho5, hb5⟩
   case measure => simp [intOf] <;> omega
  ·obtain rfl : k = N := by omega
   have hd : (decide ((k : Int) < size) = false) ∨ (decide ((k : Int) < size) = true ∧ decide ((k : Int) < 8) = false) := by
    have h := HN.out
    unfold clamp at h
    by_cases hs : (k : Int) < size
    ·right
     refine ⟨decide_eq_true hs, decide_eq_false ?_⟩
     split at h
     ·omega
     ·split at h <;> omega
    ·left; exact decide_eq_false hs
   rcases hd with d1 | ⟨d1, d2⟩
   ·go_wp2
    go_ret
    exact ⟨_, _, _, rfl, ho, hb⟩
   ·go_wp2
    go_ret
    exact ⟨_, _, _, rfl, ho, hb⟩
def RBeI (w1 w : World) (N n : Nat) (v6 v7 : Value) (wr : World) : Prop :=
 ∃ k A c, k ≤ N ∧ v7 = .int .i64 ((k + 1 : Nat) : Int) ∧ v6 = .slice A k c ∧ OwnB wr w1.heap.size A k c ((beB n N).take k) ∧ Below w1.heap.size w1 wr
theorem beB_get (n N k : Nat) (h : k < N) (u : UInt8) (hu : (leB n N)[N - (k + 1)]? = some u) : (beB n N).take (k + 1) = (beB n N).take k ++ [u] := by
 rw [List.take_add_one]
 congr 1
 unfold beB
 rw [List.getElem?_reverse (by rw [leB_length]; exact h), leB_length, show N - 1 - k = N - (k + 1) by omega, hu]
 rfl
theorem refBe_any (n : Nat) (size : Int) (w : World) (hn : n < 18446744073709551616) :
  Calls Tryz.prog 122 #[.int .u64 n, .int .i64 size] w (RetB w (beB n (clamp size))) := by
 have h8 := clamp_le size
 obtain ⟨N, hN⟩ : ∃ N, N = clamp size := ⟨_, rfl⟩
 rw [← hN] at h8
 go_enter Tryz.func122, Tryz.ntmps122
 go_wp2_with (go_at_call 98; refine (refLe_any n size _ hn).mono ?_; rintro e w1 ⟨A1, n1, c1, rfl, ho1, hb1⟩)
 rw [← hN] at ho1 ⊢
 have hn1 : n1 = N := by rw [← ho1.len, leB_length]
 subst hn1
 have HN := Lib.hid hN
 clear hN
 go_loopw [6, 7] (RBeI w1 w n1 n) (fun _ i _ => n1 + 1 - (intOf i).toNat)
 case atStart => exact ⟨0, none, 0, Nat.zero_le _, rfl, rfl, OwnB.nilB _ _, Below.refl _ _⟩
 case round =>
  obtain ⟨k, A, c, hk, rfl, rfl, ho, hb⟩ := hrel
  by_cases hlt : k < n1
  ·obtain ⟨b, o, u, rfl, hbl, hx, hcell⟩ := (ho1.rd.below hb).at_ (n1 - (k + 1)) (by omega)
   have hbe := beB_get n n1 k hlt u hx
   have HB := Lib.hid hbe
   clear hbe hx
   have k1 : ((k + 1 : Nat) : Int) ≤ (n1 : Int) := by omega
   have k2 : (n1 : Int) - ((k + 1 : Nat) : Int) = ((n1 - (k + 1) : Nat) : Int) := by omega
   generalize hj : n1 - (k + 1) = j at *
   generalize hi : k + 1 = i at *
   have hj2 : (j : Int) < (n1 : Int) := by omega
   have HJ := Lib.hid hj
   have HI := Lib.hid hi
   clear hj hi
   go_wp2_with (at_builtin; refine wp_appB rfl _ _ rfl (hb.alloc hb.size _) (Nat.le_refl _) (by have := hb.size; simp; omega) _ _ _ _ rfl (ho.alloc _) _ 1 1 [u] rfl (rd1 _ _ _ rfl) (by omega) i _ HI.out HB.out.symm ?_; intro A5 c5 w5 ho5 hb5 hg5)
   go_roundw
   case rel => exact ⟨i, _, _, by omega, by go_num, rfl, ho5, hb5⟩
   case measure => simp [intOf] <;> omega
  ·obtain rfl : k = n1 := by omega
   have hall : (beB n k).take k = beB n k := List.take_of_length_le (by rw [beB_length]; omega)
   rw [hall] at ho
   have HA := Lib.hid hall
   clear hall
   go_wp2
   go_ret
   exact ⟨_, _, _, rfl, by rw [← HN.out]; exact ho.mono hb1.size, below_then hb1 hb⟩
def RFbI (N : Nat) (xs : List UInt8) (v3 v4 : Value) : Prop := ∃ k, k ≤ N ∧ v4 = .int .i64 (k : Nat) ∧ v3 = .int .u64 (bev (xs.take k) : Nat)
theorem refFromBe_any (A : Option Addr) (n c : Nat) (xs : List UInt8) (w : World) (hr : RdB w A n c xs) :
  Calls Tryz.prog 151 #[.slice A n c] w fun e w' => e = .returned (.int .u64 (fromBe xs : Nat)) ∧ w = w' := by
 have hn63 := hr.n63
 obtain ⟨N, hN⟩ : ∃ N, N = min n 8 := ⟨_, rfl⟩
 have hN8 : N ≤ 8 := by omega
 have hNn : N ≤ n := by omega
 have hfin : fromBe xs = bev (xs.take N) := by unfold fromBe; rw [min_take xs n N hr.2.1 hN]
 have HN := Lib.hid hN
 have HF := Lib.hid hfin
 clear hN hfin
 go_enter Tryz.func151, Tryz.ntmps151
 go_wp2
 go_loop [3, 4] (RFbI N xs) (fun _ i => N - (intOf i).toNat)
 case atStart => exact ⟨0, Nat.zero_le _, rfl, rfl⟩
 case round =>
  obtain ⟨k, hk, rfl, rfl⟩ := hrel
  by_cases hlt : k < N
  ·obtain ⟨b, o, u, rfl, hb, hxk, hcell⟩ := hr.at_ k (by omega)
   have hs : xs.take (k + 1) = xs.take k ++ [u] := by rw [List.take_add_one, hxk]; rfl
   have hl := bev_lt (xs.take k)
   have hlen : (xs.take k).length = k := by rw [List.length_take, hr.2.1]; omega
   rw [hlen] at hl
   have hp := pow_small (k + 1) (by omega)
   have hq : bev (xs.take (k + 1)) = bev (xs.take k) * 256 + u.toNat := by rw [hs, bev_snoc]
   have HQ := Lib.hid hq
   have d1 : decide (k < n) = true := decide_eq_true (by omega)
   have d2 : decide ((k : Int) < 8) = true := decide_eq_true (by omega)
   clear hs hlen hxk hq
   generalize bev (xs.take k) = R at *
   have hu := u.toNat_lt
   have hsm : R < 72057594037927936 := by rw [Nat.pow_succ] at hp; omega
   clear hl hp
   go_wp2
   go_round
   case rel => exact ⟨k + 1, by omega, by go_num, by rw [HQ.out]; go_num⟩
   case measure => simp [intOf] <;> omega
  ·obtain rfl : k = N := by omega
   have hd : (decide (k < n) = false) ∨ (decide (k < n) = true ∧ decide ((k : Int) < 8) = false) := by
    have h := HN.out
    by_cases hs : k < n
    ·right; exact ⟨decide_eq_true (by omega), decide_eq_false (by omega)⟩
    ·left; exact decide_eq_false (by omega)
   rcases hd with d1 | ⟨d1, d2⟩
   ·go_wp2
    go_ret
    exact ⟨by rw [HF.out]; rfl, rfl⟩
   ·go_wp2
    go_ret
    exact ⟨by rw [HF.out]; rfl, rfl⟩
end Go.Proofs.YtpahicfnhhhifaaGreat
