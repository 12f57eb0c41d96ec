/-
  Layer 19: arp: Take.
-/
import Derived.Test.YtnfepikgbdeomaaArpM
namespace Go.Proofs.Ytnfepikgbdeomaa
set_option maxRecDepth 20000
open Go.RowKit
set_option linter.unusedVariables false
set_option linter.unusedSimpArgs false
set_option maxHeartbeats 8000000

def aFld (xs : List UInt8) (p k : Nat) : Nat := fromBe ((xs.drop p).take k)
theorem aFld_lt (xs : List UInt8) (p k : Nat) (hk : k ≤ 8) : aFld xs p k < 256 ^ k := by
  unfold aFld fromBe
  refine Nat.lt_of_lt_of_le (bev_lt _) (Nat.pow_le_pow_right (by decide) ?_)
  simp only [List.length_take]; omega
theorem RdB.macA {w : World} {b o n c : Nat} {xs : List UInt8} (h : RdB w (some ⟨b, o, none⟩) n c xs) (k : Nat) (hk : k + 6 ≤ n) : MacAt w b (o + k) (mcAt xs k) :=
  ⟨h.cellS k (by omega), h.cellS (k + 1) (by omega), h.cellS (k + 2) (by omega), h.cellS (k + 3) (by omega), h.cellS (k + 4) (by omega), h.cellS (k + 5) (by omega)⟩
/-- Taken: what is known then, and what is said. -/
def RetTk (w : World) (l : List Nb) (x : Nb) (ys : List UInt8) (e : Ending) (w' : World) : Prop := ∃ A n c m B k d, e = .returned (.tuple #[.slice A n c, .slice B k d, .int .i64 0]) ∧ OwNb w' w.heap.size A n c m ∧ (∀ y ∈ m, y.ok) ∧ Learnt l x m ∧ OwnB w' w.heap.size B k d ys ∧ Below w.heap.size w w'
def RetTe (w : World) (A : Option Addr) (n c : Nat) (er : Int) (e : Ending) (w' : World) : Prop := e = .returned (.tuple #[.slice A n c, .slice none 0 0, .int .i64 er]) ∧ Below w.heap.size w w'
theorem arpTake_short (A : Option Addr) (n c : Nat) (l : List Nb) (now : Nat) (B : Option Addr) (k d : Nat) (xs : List UInt8) (w : World) (hr : RdNb w A n c l) (hok : nbOk l = true) (hx : RdB w B k d xs) (h : k < 28) :
    Calls Try.prog 55 #[.slice A n c, .int .u64 (now : Int), .slice B k d] w (RetTe w A n c 5) := by
  have C1 := Lib.hid (arpCheck_any A n c l w hr)
  rw [hok] at C1
  have d1 : decide ((k : Int) < 28) = true := decide_eq_true (by omega)
  clear hr hok hx
  go_enter Try.func55, Try.ntmps55
  go_wp2_with fail
  refine C1.out.mono ?_
  rintro e w1 ⟨rfl, hb1⟩
  go_wp2_with fail
  refine bodyPost_ret (v := .tuple #[.slice A n c, .slice none 0 0, .int .i64 5]) (by simp [results, Try.results55, go_sem]) rfl ⟨rfl, hb1⟩
theorem arpFrom_at {w : World} {b o n c : Nat} {xs : List UInt8} (h : RdB w (some ⟨b, o, none⟩) n c xs) (p k : Nat) (hp : p + k ≤ n) (hk : 0 < k) (hc : p < c) : Calls Try.prog 105 #[.slice (some ⟨b, o + p, none⟩) k (c - p)] w fun e w' => e = .returned (.int .u64 (aFld xs p k : Nat)) ∧ w = w' := by
  have h2 := (h.cutS p (n - p) (by omega) hc).take k (by omega)
  exact fromBe_any _ _ _ _ w h2
set_option maxRecDepth 100000 in
theorem arpTake_drop (A : Option Addr) (n c : Nat) (l : List Nb) (now : Nat) (B : Option Addr) (k d : Nat) (xs : List UInt8) (w : World) (hr : RdNb w A n c l) (hok : nbOk l = true) (hx : RdB w B k d xs) (h : 28 ≤ k) (hp : xs.take 6 = arBegins) (h1 : aFld xs 6 2 = 1) (h2 : aFld xs 24 4 ≠ 167772161) :
    Calls Try.prog 55 #[.slice A n c, .int .u64 (now : Int), .slice B k d] w (RetTe w A n c 180) := by
  have hk63 := hx.n63
  have hkd := hx.2.2.1
  have hd63 := hx.c63
  have C1 := Lib.hid (arpCheck_any A n c l w hr)
  rw [hok] at C1
  obtain ⟨b, o, u, rfl, hbl, _⟩ := hx.at_ 0 (by omega)
  have d1 : decide ((k : Int) < 28) = false := decide_eq_false (by omega)
  have e1 : (8 : Int) ≤ (d : Int) := by omega
  have e2 : (28 : Int) ≤ (d : Int) := by omega
  have e3 : ¬ (d = 6) := by omega
  have e4 : ¬ (d = 24) := by omega
  have HX := Lib.hid hx
  have f2 := aFld_lt xs 24 4 (by omega)
  have F1 := Lib.hid (fun W (q : RdB W (some ⟨b, o, none⟩) k d xs) => h1 ▸ arpFrom_at q 6 2 (by omega) (by omega) (by omega))
  have F2 := Lib.hid (fun W (q : RdB W (some ⟨b, o, none⟩) k d xs) => arpFrom_at q 24 4 (by omega) (by omega) (by omega))
  have HP := Lib.hid hp
  obtain ⟨T, hT⟩ : ∃ T, aFld xs 24 4 = T := ⟨_, rfl⟩
  rw [hT] at F2 f2 h2
  have w1 : IntKind.u32.wrap (T : Int) = (T : Int) := by rw [IntKind.wrap_u32]; omega
  have d2 : ((T : Int) != 167772161) = true := by simp; omega
  clear hr hok hx hp h1 hT
  go_enter Try.func55, Try.ntmps55
  go_wp2_with fail
  refine C1.out.mono ?_
  rintro e w1 ⟨rfl, hb1⟩
  go_wp2_with fail
  refine (arpBegins_any _).mono ?_
  rintro e w2 ⟨g2, rfl, r2, hb2⟩
  have B2 := below_then hb1 hb2
  have hh := hasPrefix_any _ _ k d 6 6 xs arBegins w2 (HX.out.below B2) r2 (by omega)
  rw [decide_eq_true HP.out] at hh
  go_wp2_with fail
  refine hh.mono ?_
  clear hh r2
  rintro e w3 ⟨rfl, hb3⟩
  have B3 := below_then B2 hb3
  go_wp2_with fail
  refine (ethOwn_any _).mono ?_
  rintro e w4 ⟨rfl, hb4⟩
  have B4 := below_then B3 hb4
  go_wp2_with fail
  refine named ?_
  intro W5 hW5
  have b5 : Below w4.heap.size w4 W5 := by rw [hW5]; exact (below_self _).alloc (Nat.le_refl _) _
  have B5 := below_then B4 b5
  clear hW5
  refine (F1.out _ (HX.out.below B5)).mono ?_
  rintro e w6 ⟨rfl, rfl⟩
  go_wp2_with fail
  refine (F2.out _ (HX.out.below B5)).mono ?_
  rintro e w7 ⟨rfl, rfl⟩
  go_wp2_with fail
  refine bodyPost_ret (v := .tuple #[.slice A n c, .slice none 0 0, .int .i64 180]) (by simp [results, Try.results55, go_sem]) rfl ⟨rfl, B5⟩
set_option maxRecDepth 100000 in
theorem arpTake_ok (A : Option Addr) (n c : Nat) (l : List Nb) (now : Nat) (B : Option Addr) (k d : Nat) (xs : List UInt8) (w : World) (hr : RdNb w A n c l) (hok : nbOk l = true) (hnow : now < 18446744073709551616) (hx : RdB w B k d xs) (h : 28 ≤ k) (hp : xs.take 6 = arBegins) (h1 : aFld xs 6 2 = 1) (h2 : aFld xs 24 4 = 167772161) :
    Calls Try.prog 55 #[.slice A n c, .int .u64 (now : Int), .slice B k d] w (RetTk w l ⟨aFld xs 14 4, mcAt xs 8, arLater now 300⟩ (arSaid 2 (mcAt xs 8) (aFld xs 14 4))) := by
  have hk63 := hx.n63
  have hkd := hx.2.2.1
  have hd63 := hx.c63
  have C1 := Lib.hid (arpCheck_any A n c l w hr)
  rw [hok] at C1
  obtain ⟨b, o, u, rfl, hbl, _⟩ := hx.at_ 0 (by omega)
  have d1 : decide ((k : Int) < 28) = false := decide_eq_false (by omega)
  have e1 : (8 : Int) ≤ (d : Int) := by omega
  have e2 : (28 : Int) ≤ (d : Int) := by omega
  have e3 : ¬ (d = 6) := by omega
  have e4 : ¬ (d = 24) := by omega
  have e5 : ¬ (d = 8) := by omega
  have e6 : ¬ (d = 14) := by omega
  have e7 : (14 : Int) ≤ (d : Int) := by omega
  have e8 : (18 : Int) ≤ (d : Int) := by omega
  have HX := Lib.hid hx
  have HR := Lib.hid hr
  have HOK := Lib.hid hok
  have f14 := aFld_lt xs 14 4 (by omega)
  have F1 := Lib.hid (fun W (q : RdB W (some ⟨b, o, none⟩) k d xs) => h1 ▸ arpFrom_at q 6 2 (by omega) (by omega) (by omega))
  have F2 := Lib.hid (fun W (q : RdB W (some ⟨b, o, none⟩) k d xs) => h2 ▸ arpFrom_at q 24 4 (by omega) (by omega) (by omega))
  have F3 := Lib.hid (fun W (q : RdB W (some ⟨b, o, none⟩) k d xs) => arpFrom_at q 14 4 (by omega) (by omega) (by omega))
  have HP := Lib.hid hp
  obtain ⟨T, hT⟩ : ∃ T, aFld xs 14 4 = T := ⟨_, rfl⟩
  rw [hT] at F3 f14 ⊢
  have HM := Lib.hid (fun W (q : RdB W (some ⟨b, o, none⟩) k d xs) => q.macA 8 (by omega))
  obtain ⟨m, hm⟩ : ∃ m, mcAt xs 8 = m := ⟨_, rfl⟩
  rw [hm] at HM ⊢
  have w1 : IntKind.u32.wrap (T : Int) = (T : Int) := by rw [IntKind.wrap_u32]; omega
  clear hr hok hx hp h1 hT h2 hm
  go_enter Try.func55, Try.ntmps55
  go_wp2_with fail
  refine C1.out.mono ?_
  rintro e w1 ⟨rfl, hb1⟩
  go_wp2_with fail
  refine (arpBegins_any _).mono ?_
  rintro e w2 ⟨g2, rfl, r2, hb2⟩
  have B2 := below_then hb1 hb2
  have hh := hasPrefix_any _ _ k d 6 6 xs arBegins w2 (HX.out.below B2) r2 (by omega)
  rw [decide_eq_true HP.out] at hh
  go_wp2_with fail
  refine hh.mono ?_
  clear hh r2
  rintro e w3 ⟨rfl, hb3⟩
  have B3 := below_then B2 hb3
  go_wp2_with fail
  refine (ethOwn_any _).mono ?_
  rintro e w4 ⟨rfl, hb4⟩
  have B4 := below_then B3 hb4
  go_wp2_with fail
  refine named ?_
  intro W5 hW5
  have b5 : Below w4.heap.size w4 W5 := by rw [hW5]; exact (below_self _).alloc (Nat.le_refl _) _
  have B5 := below_then B4 b5
  clear hW5
  refine (F1.out _ (HX.out.below B5)).mono ?_
  rintro e w6 ⟨rfl, rfl⟩
  go_wp2_with fail
  refine (F2.out _ (HX.out.below B5)).mono ?_
  rintro e w7 ⟨rfl, rfl⟩
  have wr : IntKind.u32.wrap 167772161 = 167772161 := by decide
  go_wp2_with fail
  clear wr
  obtain ⟨m0, m1, m2, m3, m4, m5⟩ := HM.out W5 (HX.out.below B5)
  have lb : b < W5.heap.size := Nat.lt_of_lt_of_le hbl B5.size
  have kAA := fun (W : World) (a : Option Addr) (c : Nat) => run_arrayAt (P := Try.prog) W 96 5 6 a 6 c Try.underlying96 (Nat.le_refl 6)
  refine wp_region_seg (S := fun w' => Below W5.heap.size W5 w') 0 #[true, true, true, true, true, true, true, true, true, true, true] [(0, true), (1, true), (2, true), (3, true), (4, true), (5, true), (6, true), (7, true), (8, false), (9, false), (10, true)] (by kernel_rfl) (by kernel_rfl) (fun _ _ d _ _ h => by first | (cases d <;> exact h) | cases h.1) ((Below.refl W5.heap.size W5).drew) ?_
  have HB := (Below.refl W5.heap.size W5).drew
  iterate 6 (refine seg_take (v := ?_) rfl (Or.inl ⟨by rfl, ?_⟩) ?_; rotate_left; (focus (intro w' hw'; have j0 := (hw'.cell (p := ⟨b, o + 8, none⟩) lb).trans m0; have j1 := (hw'.cell (p := ⟨b, o + 8 + 1, none⟩) lb).trans m1; have j2 := (hw'.cell (p := ⟨b, o + 8 + 2, none⟩) lb).trans m2; have j3 := (hw'.cell (p := ⟨b, o + 8 + 3, none⟩) lb).trans m3; have j4 := (hw'.cell (p := ⟨b, o + 8 + 4, none⟩) lb).trans m4; have j5 := (hw'.cell (p := ⟨b, o + 8 + 5, none⟩) lb).trans m5; go_simp <;> with_reducible rfl)); try simp only [Act.put, List.setIfInBounds_toArray, List.set_cons_zero, List.set_cons_succ])
  refine seg_pure (v := .int .u64 (T : Int)) (f := ?_) (args := ?_) rfl (by rfl) (fun w' hw' => ?_) (fun w' hw' => ?_) ?_
  rotate_left 2
  focus (have j0 := (hw'.cell (p := ⟨b, o + 8, none⟩) lb).trans m0; have j1 := (hw'.cell (p := ⟨b, o + 8 + 1, none⟩) lb).trans m1; have j2 := (hw'.cell (p := ⟨b, o + 8 + 2, none⟩) lb).trans m2; have j3 := (hw'.cell (p := ⟨b, o + 8 + 3, none⟩) lb).trans m3; have j4 := (hw'.cell (p := ⟨b, o + 8 + 4, none⟩) lb).trans m4; have j5 := (hw'.cell (p := ⟨b, o + 8 + 5, none⟩) lb).trans m5; go_simp <;> first | (refine ⟨?_, ?_⟩ <;> with_reducible rfl) | with_reducible rfl)
  focus (exact F3.out w' ((HX.out.below B5).below hw'))
  try simp only [Act.put, List.setIfInBounds_toArray, List.set_cons_zero, List.set_cons_succ]
  iterate 1 (refine seg_take (v := ?_) rfl (Or.inl ⟨by rfl, ?_⟩) ?_; rotate_left; (focus (intro w' hw'; have j0 := (hw'.cell (p := ⟨b, o + 8, none⟩) lb).trans m0; have j1 := (hw'.cell (p := ⟨b, o + 8 + 1, none⟩) lb).trans m1; have j2 := (hw'.cell (p := ⟨b, o + 8 + 2, none⟩) lb).trans m2; have j3 := (hw'.cell (p := ⟨b, o + 8 + 3, none⟩) lb).trans m3; have j4 := (hw'.cell (p := ⟨b, o + 8 + 4, none⟩) lb).trans m4; have j5 := (hw'.cell (p := ⟨b, o + 8 + 5, none⟩) lb).trans m5; go_simp <;> with_reducible rfl)); try simp only [Act.put, List.setIfInBounds_toArray, List.set_cons_zero, List.set_cons_succ])
  refine seg_run rfl (fun K hK => ?_)
  rw [if_pos (by rfl)]
  refine op_new #[.int .u8 0, .int .u8 0, .int .u8 0, .int .u8 0, .int .u8 0, .int .u8 0] 96 (fun w => by go_simp) ?_
  intro gL wL eL hL HBl hLsz
  have HB := below_then HB HBl
  refine hK.out _ _ (HB) ?_
  clear hK
  try simp only [Act.put, List.setIfInBounds_toArray, List.set_cons_zero, List.set_cons_succ]
  refine seg_run rfl (fun K hK => ?_)
  rw [if_pos (by rfl)]
  refine wp_store_row _ _ _ rfl gL #[.int .u8 (m.a0.toNat : Int), .int .u8 (m.a1.toNat : Int), .int .u8 (m.a2.toNat : Int), .int .u8 (m.a3.toNat : Int), .int .u8 (m.a4.toNat : Int), .int .u8 (m.a5.toNat : Int)] rfl rfl _ _ hL mac_info rfl (by simp [Value.oneCell']) ?_
  have HB := below_setRow HB (show W5.heap.size ≤ gL from Nat.le_of_eq eL) #[.int .u8 (m.a0.toNat : Int), .int .u8 (m.a1.toNat : Int), .int .u8 (m.a2.toNat : Int), .int .u8 (m.a3.toNat : Int), .int .u8 (m.a4.toNat : Int), .int .u8 (m.a5.toNat : Int)]
  refine hK.out _ _ (HB) ?_
  clear hK
  try simp only [Act.put, List.setIfInBounds_toArray, List.set_cons_zero, List.set_cons_succ]
  iterate 1 (refine seg_take (v := ?_) rfl (Or.inl ⟨by rfl, ?_⟩) ?_; rotate_left; (focus (intro w' hw'; have j0 := (hw'.cell (p := ⟨b, o + 8, none⟩) lb).trans m0; have j1 := (hw'.cell (p := ⟨b, o + 8 + 1, none⟩) lb).trans m1; have j2 := (hw'.cell (p := ⟨b, o + 8 + 2, none⟩) lb).trans m2; have j3 := (hw'.cell (p := ⟨b, o + 8 + 3, none⟩) lb).trans m3; have j4 := (hw'.cell (p := ⟨b, o + 8 + 4, none⟩) lb).trans m4; have j5 := (hw'.cell (p := ⟨b, o + 8 + 5, none⟩) lb).trans m5; go_simp <;> with_reducible rfl)); try simp only [Act.put, List.setIfInBounds_toArray, List.set_cons_zero, List.set_cons_succ])
  refine seg_done (fun _ => ?_)
  refine wpAnyH_done (by kernel_rfl) ?_ _
  have B6 := below_then B5 HB
  obtain ⟨W6, hW6⟩ : ∃ W, W = wL.setRow gL #[.int .u8 (m.a0.toNat : Int), .int .u8 (m.a1.toNat : Int), .int .u8 (m.a2.toNat : Int), .int .u8 (m.a3.toNat : Int), .int .u8 (m.a4.toNat : Int), .int .u8 (m.a5.toNat : Int)] := ⟨_, rfl⟩
  have q6 : W6.heap[gL]? = some (.cells #[.int .u8 (m.a0.toNat : Int), .int .u8 (m.a1.toNat : Int), .int .u8 (m.a2.toNat : Int), .int .u8 (m.a3.toNat : Int), .int .u8 (m.a4.toNat : Int), .int .u8 (m.a5.toNat : Int)] 96 (0, 0)) := by rw [hW6]; exact setRow_heap _ _ _ _ _ _ hL
  have HQ6 := Lib.hid q6
  rw [← hW6] at B6 ⊢
  clear hW6 hL HBl hLsz eL kAA m0 m1 m2 m3 m4 m5
  obtain ⟨⟨k0, k1, k2, k3, k4, k5⟩, _⟩ := mac_open q6
  clear q6
  go_wp2_with fail
  refine (arpLearn_any A n c l T now m W6 (HR.out.below B6) HOK.out (by omega) hnow).mono ?_
  rintro e w7 ⟨A7, n7, c7, l7, rfl, o7, ok7, L7, hb7⟩
  have B7 := below_then B6 hb7
  have HO7 := Lib.hid o7
  have HL7 := Lib.hid L7
  have HOK7 := Lib.hid ok7
  obtain ⟨⟨k0, k1, k2, k3, k4, k5⟩, _⟩ := mac_open (drw_up HQ6.out hb7)
  clear o7 L7 ok7
  go_wp2_with fail
  have H8 : Hid (∀ W, Calls Try.prog 106 #[.int .u64 2, .agg #[.int .u8 (m.a0.toNat : Int), .int .u8 (m.a1.toNat : Int), .int .u8 (m.a2.toNat : Int), .int .u8 (m.a3.toNat : Int), .int .u8 (m.a4.toNat : Int), .int .u8 (m.a5.toNat : Int)], .int .u32 (T : Int)] W (RetB W (arSaid 2 m T))) := Lib.hid (fun W => arpSaid_any 2 m T W (by omega) (by omega))
  refine (H8.out _).mono ?_
  rintro e w8 ⟨A8, n8, c8, rfl, o8, hb8⟩
  have B8 := below_then B7 hb8
  go_wp2_with fail
  refine bodyPost_ret (v := .tuple #[.slice A7 n7 c7, .slice A8 n8 c8, .int .i64 0]) (by simp [results, Try.results55, go_sem]) rfl ⟨A7, n7, c7, l7, A8, n8, c8, rfl, own_mono8 (HO7.out.up hb8) B6.size, HOK7.out, HL7.out, o8.mono (B7.size), B8⟩
end Go.Proofs.Ytnfepikgbdeomaa
