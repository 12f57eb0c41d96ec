/-
  Layer 20: Put of the package.
-/
import Derived.Test.YtieilgphcfiapaaIp
import Derived.Test.YtieilgphcfiapaaOpsC
-- facts: PkAt
namespace Go.Proofs.Ytieilgphcfiapaa
set_option maxRecDepth 20000
open Go.RowKit
set_option linter.unusedVariables false
set_option linter.unusedSimpArgs false

/-- A packet in a box. -/
def PkAt (w : World) (g : Nat) (id : Nat) (more : Bool) (place proto : Int) (src dst : Nat) (A : Option Addr) (n c : Nat) : Prop :=
  w.cell? ⟨g, 0, none⟩ = some (.int .u16 id) ∧ w.cell? ⟨g, 1, none⟩ = some (.bool more) ∧ w.cell? ⟨g, 2, none⟩ = some (.int .i64 place) ∧ w.cell? ⟨g, 3, none⟩ = some (.int .i64 proto) ∧ w.cell? ⟨g, 4, none⟩ = some (.int .u32 src) ∧ w.cell? ⟨g, 5, none⟩ = some (.int .u32 dst) ∧ w.cell? ⟨g, 6, none⟩ = some (.slice A n c)
theorem PkAt.below {W w : World} {B g id : Nat} {more : Bool} {place proto : Int} {src dst : Nat} {A : Option Addr} {n c : Nat} (h : PkAt W g id more place proto src dst A n c) (hb : Below B W w) (hg : g < B) : PkAt w g id more place proto src dst A n c := by
  obtain ⟨h0, h1, h2, h3, h4, h5, h6⟩ := h
  exact ⟨(hb.cell (p := ⟨g, _, none⟩) hg).trans h0, (hb.cell (p := ⟨g, _, none⟩) hg).trans h1, (hb.cell (p := ⟨g, _, none⟩) hg).trans h2, (hb.cell (p := ⟨g, _, none⟩) hg).trans h3, (hb.cell (p := ⟨g, _, none⟩) hg).trans h4, (hb.cell (p := ⟨g, _, none⟩) hg).trans h5, (hb.cell (p := ⟨g, _, none⟩) hg).trans h6⟩
theorem bld0 (w : World) (T U : TypeId) : BldAt w ((w.alloc (.cells #[.slice none 0 0] T)).alloc (.cells #[.pointer (some ⟨w.heap.size, 0, none⟩)] U)) w.heap.size (w.heap.size + 1) [] :=
  ⟨((below_self w).alloc (Nat.le_refl _) _).alloc (by simp) _, Nat.le_refl _, by omega, by simp, by simp [go_sem], by simp [go_sem], none, 0, 0, by simp [go_sem], OwnB.nilB _ _⟩
theorem or_8192 (q : Nat) (h : q < 8192) : bits .or .u64 (q : Int) 8192 = ((q + 8192 : Nat) : Int) := by
  have e : q ||| 8192 = q + 8192 := by
    rw [Nat.or_comm, show (8192 : Nat) = 2 ^ 13 * 1 from rfl, ← Nat.two_pow_add_eq_or_of_lt (by omega)]; omega
  show IntKind.u64.wrap ((BitVec.ofInt 64 (q : Int) ||| BitVec.ofInt 64 8192).toNat : Nat) = _
  have e2 : (BitVec.ofInt 64 (q : Int) ||| BitVec.ofInt 64 8192).toNat = q + 8192 := by
    rw [BitVec.toNat_or, BitVec.toNat_ofInt, BitVec.toNat_ofInt]
    have h1 : ((q : Int) % ((2 ^ 64 : Nat) : Int)).toNat = q := by omega
    have h2 : ((8192 : Int) % ((2 ^ 64 : Nat) : Int)).toNat = 8192 := by decide
    rw [h1, h2, e]
  rw [e2, IntKind.wrap_u64]; omega

def ipPl (place : Int) (more : Bool) : Nat := place.toNat / 8 + if more = true then 8192 else 0
def ipPutL (id : Nat) (more : Bool) (place proto : Int) (src dst : Nat) (xs : List UInt8) : List UInt8 :=
  if ipCheck place proto xs.length = true then ipS (20 + xs.length) id (ipPl place more) proto.toNat src dst ++ xs else []
def ipPutE (place proto : Int) (xs : List UInt8) : Int := if ipCheck place proto xs.length = true then 0 else 2

theorem ipPut_no (id : Nat) (more : Bool) (place proto : Int) (src dst : Nat) (A : Option Addr) (n c : Nat) (xs : List UInt8) (w : World) (hid : id < 65536) (hp : -9223372036854775808 ≤ place ∧ place ≤ 9223372036854775807) (ho : -9223372036854775808 ≤ proto ∧ proto ≤ 9223372036854775807) (hsrc : src < 4294967296) (hdst : dst < 4294967296) (hr : RdB w A n c xs) (hc : ipCheck place proto n = false) :
    Calls Try.prog 30 #[.agg #[.int .u16 id, .bool more, .int .i64 place, .int .i64 proto, .int .u32 src, .int .u32 dst, .slice A n c]] w (RetBE w [] 2) := by
  have hn63 := hr.n63
  have HC := Lib.hid hc
  clear hc
  go_enter Try.func30, Try.ntmps30
  go_wp2_with fail
  refine (ipCheck_any id more place proto src dst A n c _ hn63 hp ho).mono ?_
  rintro e w2 ⟨rfl, hb2⟩
  rw [HC.out]
  go_wp2
  go_ret2
  exact ⟨none, 0, 0, rfl, OwnB.nilB _ _, bstep (below_self w) hb2⟩

set_option maxHeartbeats 1600000 in
theorem ipPut_yes (id : Nat) (more : Bool) (q r : Nat) (src dst : Nat) (A : Option Addr) (n c : Nat) (xs : List UInt8) (w : World) (hid : id < 65536) (hq : q ≤ 8191) (hr8 : r ≤ 255) (hsrc : src < 4294967296) (hdst : dst < 4294967296) (hr : RdB w A n c xs) (hn : n ≤ 146) (mo : Nat) (hmo : (more = true ∧ mo = 8192) ∨ (more = false ∧ mo = 0)) :
    Calls Try.prog 30 #[.agg #[.int .u16 id, .bool more, .int .i64 ((8 * q : Nat) : Int), .int .i64 (r : Nat), .int .u32 src, .int .u32 dst, .slice A n c]] w (RetBE w (ipS (20 + n) id (q + mo) r src dst ++ xs) 0) := by
  have hn63 := hr.n63
  have hc : ipCheck (8 * q : Nat) (r : Nat) n = true := by rw [ipCheck_iff]; omega
  have HC := Lib.hid hc
  have HMO := Lib.hid hmo
  have hdiv : ((8 * q : Nat) : Int) / 8 = (q : Int) := by omega
  have hor := or_8192 q (by omega)
  have hp0 : (0 : Int) ≤ ((8 * q : Nat) : Int) := by omega
  obtain ⟨P, hP⟩ : ∃ P : Nat, P = 8 * q := ⟨_, rfl⟩
  rw [← hP] at hdiv hp0 hc ⊢
  have HP := Lib.hid hP
  have hPb : P ≤ 65528 := by omega
  have cl1 : clamp 1 = 1 := rfl
  have cl2 : clamp 2 = 2 := rfl
  have cl4 : clamp 4 = 4 := rfl
  have HC1 := Lib.hid cl1
  have HC2 := Lib.hid cl2
  have HC4 := Lib.hid cl4
  clear hc hP hmo cl1 cl2 cl4
  go_enter Try.func30, Try.ntmps30
  go_wp2_with fail
  refine named ?_
  intro W1 hW1
  have bW1 : Below w.heap.size w W1 := by rw [hW1]; repeat' (first | exact Below.refl _ _ | (refine Below.alloc ?_ ?_ _; rotate_left; (simp <;> omega)) | refine Below.drew ?_)
  have zW1 := bW1.size
  have p1 : PkAt W1 w.heap.size id more P r src dst A n c := by rw [hW1]; simp [PkAt, go_sem]
  have HW1 := Lib.hid hW1
  clear hW1
  have x1 : w.heap.size < W1.heap.size := by rw [HW1.out]; simp
  refine (ipCheck_any id more P r src dst A n c _ hn63 (by omega) (by omega)).mono ?_
  rintro e w2 ⟨rfl, hb2⟩
  have hck : ipCheck (P : Int) (r : Int) n = true := by rw [HP.out]; exact HC.out
  rw [hck]
  clear hck
  have p2 := p1.below hb2 x1
  have x2 : w.heap.size < w2.heap.size := Nat.lt_of_lt_of_le x1 hb2.size
  go_wp2_with (go_at_call 69; go_in)
  refine named ?_
  intro W3 hW3
  have bW3 : Below w2.heap.size w2 W3 := by rw [hW3]; repeat' (first | exact Below.refl _ _ | (refine Below.alloc ?_ ?_ _; rotate_left; (simp <;> omega)) | refine Below.drew ?_)
  have zW3 := bW3.size
  have b3 : BldAt w2 W3 w2.heap.size (w2.heap.size + 1) [] := by rw [hW3]; exact bld0 ..
  have HW3 := Lib.hid hW3
  clear hW3
  refine (builder1_any 69 1 w2 _ _ _ _ (by omega) (by simp [beB_length]) b3).mono ?_
  rintro e w4 ⟨rfl, b4⟩
  rw [HC1.out] at b4
  obtain ⟨q0, q1, q2, q3, q4, q5, q6⟩ := p2.below b4.1 x2
  go_wp2_with fail
  clear q0 q1 q2 q3 q4 q5 q6
  refine (builder1_any 0 1 w2 _ _ _ _ (by omega) (by simp [beB_length]) b4).mono ?_
  rintro e w5 ⟨rfl, b5⟩
  rw [HC1.out] at b5
  obtain ⟨q0, q1, q2, q3, q4, q5, q6⟩ := p2.below b5.1 x2
  go_wp2_with fail
  clear q0 q1 q2 q3 q4 q5 q6
  refine (builder1_any (20 + n) 2 w2 _ _ _ _ (by omega) (by simp [beB_length]) b5).mono ?_
  rintro e w6 ⟨rfl, b6⟩
  rw [HC2.out] at b6
  obtain ⟨q0, q1, q2, q3, q4, q5, q6⟩ := p2.below b6.1 x2
  go_wp2_with fail
  clear q0 q1 q2 q3 q4 q5 q6
  refine (builder1_any id 2 w2 _ _ _ _ (by omega) (by simp [beB_length]) b6).mono ?_
  rintro e w7 ⟨rfl, b7⟩
  rw [HC2.out] at b7
  obtain ⟨q0, q1, q2, q3, q4, q5, q6⟩ := p2.below b7.1 x2
  rcases HMO.out with ⟨rfl, rfl⟩ | ⟨rfl, rfl⟩
  · skip
    go_wp2_with fail
    clear q0 q1 q2 q3 q4 q5 q6
    refine (builder1_any (q + 8192) 2 w2 _ _ _ _ (by omega) (by simp [beB_length]) b7).mono ?_
    rintro e w8 ⟨rfl, b8⟩
    rw [HC2.out] at b8
    obtain ⟨q0, q1, q2, q3, q4, q5, q6⟩ := p2.below b8.1 x2
    go_wp2_with fail
    clear q0 q1 q2 q3 q4 q5 q6
    refine (builder1_any 64 1 w2 _ _ _ _ (by omega) (by simp [beB_length]) b8).mono ?_
    rintro e w9 ⟨rfl, b9⟩
    rw [HC1.out] at b9
    obtain ⟨q0, q1, q2, q3, q4, q5, q6⟩ := p2.below b9.1 x2
    go_wp2_with fail
    clear q0 q1 q2 q3 q4 q5 q6
    refine (builder1_any r 1 w2 _ _ _ _ (by omega) (by simp [beB_length]) b9).mono ?_
    rintro e w10 ⟨rfl, b10⟩
    rw [HC1.out] at b10
    obtain ⟨q0, q1, q2, q3, q4, q5, q6⟩ := p2.below b10.1 x2
    go_wp2_with fail
    clear q0 q1 q2 q3 q4 q5 q6
    refine (builder1_any 0 2 w2 _ _ _ _ (by omega) (by simp [beB_length]) b10).mono ?_
    rintro e w11 ⟨rfl, b11⟩
    rw [HC2.out] at b11
    obtain ⟨q0, q1, q2, q3, q4, q5, q6⟩ := p2.below b11.1 x2
    go_wp2_with fail
    clear q0 q1 q2 q3 q4 q5 q6
    refine (builder1_any src 4 w2 _ _ _ _ (by omega) (by simp [beB_length]) b11).mono ?_
    rintro e w12 ⟨rfl, b12⟩
    rw [HC4.out] at b12
    obtain ⟨q0, q1, q2, q3, q4, q5, q6⟩ := p2.below b12.1 x2
    go_wp2_with fail
    clear q0 q1 q2 q3 q4 q5 q6
    refine (builder1_any dst 4 w2 _ _ _ _ (by omega) (by simp [beB_length]) b12).mono ?_
    rintro e w13 ⟨rfl, b13⟩
    rw [HC4.out] at b13
    have H := b13
    rw [ipH_seq] at H
    obtain ⟨h1, h2, h3, h4, h5, h6, A4, n4, c4, h7, h8⟩ := H
    have hn4 : n4 = 20 := by rw [← h8.len, ipH_length]
    subst hn4
    obtain ⟨ga, rfl, hga, hgl⟩ := h8.addr (by omega)
    have hc4 := h8.rd.2.2.1
    have hc63 := h8.rd.c63
    have kc1 : ¬ (c4 = 10) := by omega
    have kc2 : (20 : Int) ≤ (c4 : Int) := by omega
    have p13 := p2.below h1 x2
    have HS : Hid (numCheck (ipH (20 + n) id (q + 8192) r src dst) < 65536) := Lib.hid (by unfold numCheck; omega)
    have wck := w64n (k := numCheck (ipH (20 + n) id (q + 8192) r src dst)) (by have := HS.out; omega)
    obtain ⟨q0, q1, q2, q3, q4, q5, q6⟩ := p13
    go_wp2_with fail
    clear q0 q1 q2 q3 q4 q5 q6
    refine wp_region_last (S := fun w' => Below (w2.heap.size + 1 + 1) w13 w') 6 #[true, true, true, true, true, true, false] [(0, true), (1, true), (2, true), (3, false), (4, true), (5, false)] (by kernel_rfl) (by kernel_rfl) (fun _ _ d _ _ h => by cases d <;> exact h) ((Below.refl _ w13).drew) ?_
    iterate 3 (refine seg_take (v := ?_) rfl (Or.inl ⟨by rfl, ?_⟩) ?_; rotate_left; (focus (intro w' hw'; have j2 := (hw'.cell (p := ⟨w2.heap.size, 0, none⟩) (by show w2.heap.size < _; omega)).trans h7; go_simp <;> with_reducible rfl)); try simp only [Act.put, List.setIfInBounds_toArray, List.set_cons_zero, List.set_cons_succ])
    refine seg_run rfl (fun K hK => ?_)
    go_simp
    refine (numCheck_any _ _ _ _ _ h8.rd.drew).mono ?_
    rintro e v1 ⟨rfl, rfl⟩
    refine hK.out _ _ ((Below.refl _ w13).drew) ?_
    clear hK
    try simp only [Act.put, List.setIfInBounds_toArray, List.set_cons_zero, List.set_cons_succ]
    iterate 1 (refine seg_take (v := ?_) rfl (Or.inl ⟨by rfl, ?_⟩) ?_; rotate_left; (focus (intro w' hw'; have j2 := (hw'.cell (p := ⟨w2.heap.size, 0, none⟩) (by show w2.heap.size < _; omega)).trans h7; go_simp <;> with_reducible rfl)); try simp only [Act.put, List.setIfInBounds_toArray, List.set_cons_zero, List.set_cons_succ])
    refine seg_run rfl (fun K hK => ?_)
    go_simp
    refine (be_any _ 2 _ (by have := HS.out; omega)).mono ?_
    rintro e w14 ⟨A14, n14, c14, rfl, ho14, hb14⟩
    rw [HC2.out] at ho14
    refine hK.out _ _ ((Below.refl (w2.heap.size + 1 + 1) w13).drew.trans (hb14.mono (by simp; omega))) ?_
    clear hK
    try simp only [Act.put, List.setIfInBounds_toArray, List.set_cons_zero, List.set_cons_succ]
    refine seg_done ?_
    refine last_run rfl (fun K hK => ?_)
    have hn14 : n14 = 2 := by rw [← ho14.len, beB_length]
    subst hn14
    have B14 := (Below.refl (w2.heap.size + 1 + 1) w13).drew.trans (hb14.mono (by simp; omega))
    refine op_copyB rfl _ _ rfl B14 (Nat.le_refl _) ga 20 c4 _ (h8.below (undrew hb14)) 10 2 10 (c4 - 10) rfl _ _ _ rfl ho14.rd (by omega) (by omega) (by omega) ?_
    intro w15 ho15 hb15
    refine hK.out _ _ ?_
    clear hK
    try simp only [Act.put, List.setIfInBounds_toArray, List.set_cons_zero, List.set_cons_succ]
    rw [ipH_take] at ho15
    have B15 := (h1.trans (hb15.mono (by omega)))
    have j15 := (hb15.cell (p := ⟨w2.heap.size, 0, none⟩) (by show w2.heap.size < _; omega)).trans h7
    have p15 := p2.below B15 x2
    have r15 := (hr.below (below_then bW1 hb2)).below B15
    have z15 := hb15.size
    obtain ⟨q0, q1, q2, q3, q4, q5, q6⟩ := p15
    have hz15 : w2.heap.size + 1 + 1 ≤ w15.heap.size := by omega
    go_wp2_with (at_builtin; refine wp_appB rfl _ _ rfl B15 (by omega) hz15 _ _ _ _ rfl ho15 _ _ _ _ rfl r15 (by omega) (20 + n) (ipS (20 + n) id (q + 8192) r src dst ++ xs) rfl rfl ?_; intro A16 c16 w16 ho16 hb16 hg16)
    go_ret2
    exact ⟨_, _, _, rfl, ho16.mono (by have := bW1.size; have := hb2.size; omega), below_then (below_then bW1 hb2) hb16⟩
  · skip
    go_wp2_with fail
    clear q0 q1 q2 q3 q4 q5 q6
    refine (builder1_any q 2 w2 _ _ _ _ (by omega) (by simp [beB_length]) b7).mono ?_
    rintro e w8 ⟨rfl, b8⟩
    rw [HC2.out] at b8
    obtain ⟨q0, q1, q2, q3, q4, q5, q6⟩ := p2.below b8.1 x2
    go_wp2_with fail
    clear q0 q1 q2 q3 q4 q5 q6
    refine (builder1_any 64 1 w2 _ _ _ _ (by omega) (by simp [beB_length]) b8).mono ?_
    rintro e w9 ⟨rfl, b9⟩
    rw [HC1.out] at b9
    obtain ⟨q0, q1, q2, q3, q4, q5, q6⟩ := p2.below b9.1 x2
    go_wp2_with fail
    clear q0 q1 q2 q3 q4 q5 q6
    refine (builder1_any r 1 w2 _ _ _ _ (by omega) (by simp [beB_length]) b9).mono ?_
    rintro e w10 ⟨rfl, b10⟩
    rw [HC1.out] at b10
    obtain ⟨q0, q1, q2, q3, q4, q5, q6⟩ := p2.below b10.1 x2
    go_wp2_with fail
    clear q0 q1 q2 q3 q4 q5 q6
    refine (builder1_any 0 2 w2 _ _ _ _ (by omega) (by simp [beB_length]) b10).mono ?_
    rintro e w11 ⟨rfl, b11⟩
    rw [HC2.out] at b11
    obtain ⟨q0, q1, q2, q3, q4, q5, q6⟩ := p2.below b11.1 x2
    go_wp2_with fail
    clear q0 q1 q2 q3 q4 q5 q6
    refine (builder1_any src 4 w2 _ _ _ _ (by omega) (by simp [beB_length]) b11).mono ?_
    rintro e w12 ⟨rfl, b12⟩
    rw [HC4.out] at b12
    obtain ⟨q0, q1, q2, q3, q4, q5, q6⟩ := p2.below b12.1 x2
    go_wp2_with fail
    clear q0 q1 q2 q3 q4 q5 q6
    refine (builder1_any dst 4 w2 _ _ _ _ (by omega) (by simp [beB_length]) b12).mono ?_
    rintro e w13 ⟨rfl, b13⟩
    rw [HC4.out] at b13
    have H := b13
    rw [ipH_seq] at H
    obtain ⟨h1, h2, h3, h4, h5, h6, A4, n4, c4, h7, h8⟩ := H
    have hn4 : n4 = 20 := by rw [← h8.len, ipH_length]
    subst hn4
    obtain ⟨ga, rfl, hga, hgl⟩ := h8.addr (by omega)
    have hc4 := h8.rd.2.2.1
    have hc63 := h8.rd.c63
    have kc1 : ¬ (c4 = 10) := by omega
    have kc2 : (20 : Int) ≤ (c4 : Int) := by omega
    have p13 := p2.below h1 x2
    have HS : Hid (numCheck (ipH (20 + n) id q r src dst) < 65536) := Lib.hid (by unfold numCheck; omega)
    have wck := w64n (k := numCheck (ipH (20 + n) id q r src dst)) (by have := HS.out; omega)
    obtain ⟨q0, q1, q2, q3, q4, q5, q6⟩ := p13
    go_wp2_with fail
    clear q0 q1 q2 q3 q4 q5 q6
    refine wp_region_last (S := fun w' => Below (w2.heap.size + 1 + 1) w13 w') 6 #[true, true, true, true, true, true, false] [(0, true), (1, true), (2, true), (3, false), (4, true), (5, false)] (by kernel_rfl) (by kernel_rfl) (fun _ _ d _ _ h => by cases d <;> exact h) ((Below.refl _ w13).drew) ?_
    iterate 3 (refine seg_take (v := ?_) rfl (Or.inl ⟨by rfl, ?_⟩) ?_; rotate_left; (focus (intro w' hw'; have j2 := (hw'.cell (p := ⟨w2.heap.size, 0, none⟩) (by show w2.heap.size < _; omega)).trans h7; go_simp <;> with_reducible rfl)); try simp only [Act.put, List.setIfInBounds_toArray, List.set_cons_zero, List.set_cons_succ])
    refine seg_run rfl (fun K hK => ?_)
    go_simp
    refine (numCheck_any _ _ _ _ _ h8.rd.drew).mono ?_
    rintro e v1 ⟨rfl, rfl⟩
    refine hK.out _ _ ((Below.refl _ w13).drew) ?_
    clear hK
    try simp only [Act.put, List.setIfInBounds_toArray, List.set_cons_zero, List.set_cons_succ]
    iterate 1 (refine seg_take (v := ?_) rfl (Or.inl ⟨by rfl, ?_⟩) ?_; rotate_left; (focus (intro w' hw'; have j2 := (hw'.cell (p := ⟨w2.heap.size, 0, none⟩) (by show w2.heap.size < _; omega)).trans h7; go_simp <;> with_reducible rfl)); try simp only [Act.put, List.setIfInBounds_toArray, List.set_cons_zero, List.set_cons_succ])
    refine seg_run rfl (fun K hK => ?_)
    go_simp
    refine (be_any _ 2 _ (by have := HS.out; omega)).mono ?_
    rintro e w14 ⟨A14, n14, c14, rfl, ho14, hb14⟩
    rw [HC2.out] at ho14
    refine hK.out _ _ ((Below.refl (w2.heap.size + 1 + 1) w13).drew.trans (hb14.mono (by simp; omega))) ?_
    clear hK
    try simp only [Act.put, List.setIfInBounds_toArray, List.set_cons_zero, List.set_cons_succ]
    refine seg_done ?_
    refine last_run rfl (fun K hK => ?_)
    have hn14 : n14 = 2 := by rw [← ho14.len, beB_length]
    subst hn14
    have B14 := (Below.refl (w2.heap.size + 1 + 1) w13).drew.trans (hb14.mono (by simp; omega))
    refine op_copyB rfl _ _ rfl B14 (Nat.le_refl _) ga 20 c4 _ (h8.below (undrew hb14)) 10 2 10 (c4 - 10) rfl _ _ _ rfl ho14.rd (by omega) (by omega) (by omega) ?_
    intro w15 ho15 hb15
    refine hK.out _ _ ?_
    clear hK
    try simp only [Act.put, List.setIfInBounds_toArray, List.set_cons_zero, List.set_cons_succ]
    rw [ipH_take] at ho15
    have B15 := (h1.trans (hb15.mono (by omega)))
    have j15 := (hb15.cell (p := ⟨w2.heap.size, 0, none⟩) (by show w2.heap.size < _; omega)).trans h7
    have p15 := p2.below B15 x2
    have r15 := (hr.below (below_then bW1 hb2)).below B15
    have z15 := hb15.size
    obtain ⟨q0, q1, q2, q3, q4, q5, q6⟩ := p15
    have hz15 : w2.heap.size + 1 + 1 ≤ w15.heap.size := by omega
    go_wp2_with (at_builtin; refine wp_appB rfl _ _ rfl B15 (by omega) hz15 _ _ _ _ rfl ho15 _ _ _ _ rfl r15 (by omega) (20 + n) (ipS (20 + n) id q r src dst ++ xs) rfl rfl ?_; intro A16 c16 w16 ho16 hb16 hg16)
    go_ret2
    exact ⟨_, _, _, rfl, ho16.mono (by have := bW1.size; have := hb2.size; omega), below_then (below_then bW1 hb2) hb16⟩
end Go.Proofs.Ytieilgphcfiapaa
