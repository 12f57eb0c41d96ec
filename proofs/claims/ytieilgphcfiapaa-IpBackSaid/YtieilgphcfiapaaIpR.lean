/-
  The law IpBack.
-/
import Derived.Test.YtieilgphcfiapaaIpM
import Derived.Test.YtieilgphcfiapaaIpP
import Derived.Test.YtieilgphcfiapaaAid
-- facts: PkAt
namespace Go.Proofs.Ytieilgphcfiapaa
set_option maxRecDepth 20000
open Go.RowKit
set_option linter.unusedVariables false
set_option linter.unusedSimpArgs false
set_option maxHeartbeats 4000000

theorem ipBack_early (id : Nat) (more : Bool) (place proto : Int) (src dst : Nat) (A : Option Addr) (n c : Nat) (xs : List UInt8) (B : Option Addr) (m e' : Nat) (ys : List UInt8) (at_ : Int) (by_ : Nat) (w : World) (hp : -9223372036854775808 ≤ place ∧ place ≤ 9223372036854775807) (ho : -9223372036854775808 ≤ proto ∧ proto ≤ 9223372036854775807) (hr : RdB w A n c xs) (hs : RdB w B m e' ys) (h : ipCheck place proto n = false ∨ 30 < m) :
    Calls Try.prog 8 #[.agg #[.int .u16 id, .bool more, .int .i64 place, .int .i64 proto, .int .u32 src, .int .u32 dst, .slice A n c], .slice B m e', .int .i64 at_, .int .u8 by_] w (RetV w (.bool true)) := by
  have hn63 := hr.n63
  have hm63 := hs.n63
  go_enter Try.func8, Try.ntmps8
  go_wp2_with fail
  refine (refCheck20_any id more place proto src dst A n c _ (by omega) hp ho).mono ?_
  rintro e w1 ⟨rfl, hb1⟩
  have B1 := bstep (below_self w) hb1
  cases hck : ipCheck place proto n with
  | false =>
    go_wp2_with fail
    refine (heads20 _).mono ?_
    rintro e w9 ⟨rfl, hb9⟩
    go_wp2
    go_ret
    exact ⟨rfl, below_then B1 hb9⟩
  | true =>
    have d2 : decide ((30 : Int) < (m : Int)) = true := decide_eq_true (by have := h.resolve_left (by rw [hck]; decide); omega)
    go_wp2_with fail
    refine (heads20 _).mono ?_
    rintro e w9 ⟨rfl, hb9⟩
    go_wp2
    go_ret
    exact ⟨rfl, below_then B1 hb9⟩

theorem ipBack_main (id : Nat) (more : Bool) (place proto : Int) (src dst : Nat) (A : Option Addr) (n c : Nat) (xs : List UInt8) (B : Option Addr) (m e' : Nat) (ys : List UInt8) (at_ : Int) (by_ : Nat) (w : World) (hid : id < 65536) (hp : -9223372036854775808 ≤ place ∧ place ≤ 9223372036854775807) (ho : -9223372036854775808 ≤ proto ∧ proto ≤ 9223372036854775807) (hsrc : src < 4294967296) (hdst : dst < 4294967296) (hr : RdB w A n c xs) (hs : RdB w B m e' ys) (hby : by_ < 256) (hck : ipCheck place proto n = true) (hm : m ≤ 30) :
    Calls Try.prog 8 #[.agg #[.int .u16 id, .bool more, .int .i64 place, .int .i64 proto, .int .u32 src, .int .u32 dst, .slice A n c], .slice B m e', .int .i64 at_, .int .u8 by_] w (RetV w (.bool true)) := by
  have hn63 := hr.n63
  have hl := hr.2.1
  have hn : n ≤ 146 := ((ipCheck_iff _ _ _).1 hck).2.2.2.2.2
  obtain ⟨pk1, pk2, pk3, pk4⟩ := pk_back id more place proto src dst xs ys hid hsrc hdst (by rw [hl]; exact hck)
  rw [hl] at pk3
  have HK1 := Lib.hid pk1
  have HK2 := Lib.hid pk2
  have HK4 := Lib.hid pk4
  have HTN := fun k hk v hv => pk_turned id more place proto src dst xs k hk v (by rw [hl]; exact hck) hv
  have HT := Lib.hid HTN
  clear pk1 pk2 pk4 HTN
  obtain ⟨P, hP⟩ : ∃ P, ipPutL id more place proto src dst xs = P := ⟨ipPutL id more place proto src dst xs, rfl⟩
  rw [hP] at pk3
  have HP := Lib.hid hP
  clear hP
  have d2 : decide ((30 : Int) < (m : Int)) = false := decide_eq_false (by omega)
  go_enter Try.func8, Try.ntmps8
  go_wp2_with fail
  refine named ?_
  intro W1 hW1
  have bW1 : Below w.heap.size w W1 := by rw [hW1]; repeat' (first | exact Below.refl _ _ | (refine Below.alloc ?_ ?_ _; rotate_left; (simp <;> omega)) | refine Below.drew ?_)
  have zW1 := bW1.size
  have p1 : PkAt W1 w.heap.size id more place proto src dst A n c := by rw [hW1]; simp [PkAt, go_sem]
  have HW1 := Lib.hid hW1
  clear hW1
  have x1 : w.heap.size < W1.heap.size := by rw [HW1.out]; simp
  refine (refCheck20_any id more place proto src dst A n c W1 (by omega) hp ho).mono ?_
  rintro e w2 ⟨rfl, hb2⟩
  rw [hck]
  have q2 := p1.below hb2 x1
  have B2 := below_then bW1 hb2
  have qq := q2
  obtain ⟨a0, a1, a2, a3, a4, a5, a6⟩ := qq
  go_wp2_with fail
  clear a0 a1 a2 a3 a4 a5 a6
  refine (ipPut_any id more place proto src dst A n c xs w2 hid hp ho hsrc hdst (hr.below B2)).mono ?_
  rintro e w3 ⟨A3, n3, c3, rfl, ho3, hb3⟩
  rw [HK4.out]
  rw [HP.out] at ho3
  have hn3 : n3 = 20 + n := by rw [← ho3.len, pk3]
  subst hn3
  have B3 := below_then B2 hb3
  go_wp2_with (first
    | (at_builtin; refine wp_appB rfl _ _ rfl ((below_self w3).alloc (Nat.le_refl _) _) (Nat.le_refl _) (by simp) _ _ _ _ rfl (own0 w3) A3 (20 + n) c3 P rfl (ho3.rd.alloc _) (by omega) (20 + n) P (by omega) (by simp) ?_; intro A4 c4 w4 ho4 hb4 hg4)
    | (at_builtin; refine wp_appB rfl _ _ rfl hb4 (by omega) (by have := hb4.size; omega) A4 (20 + n) c4 P rfl ho4 B m e' ys rfl (hs.below (below_then B3 hb4)) (by omega) (20 + n + m) (P ++ ys) rfl rfl ?_; intro A5 c5 w5 ho5 hb5 hg5))
  have hg6 := ipGet_any A5 (20 + n + m) c5 (P ++ ys) w5 ho5.rd
  rw [← HP.out, HK1.out, HK2.out] at hg6
  refine hg6.mono ?_
  rintro e w6 ⟨A6, n6, c6, rfl, hr6, hb6⟩
  clear hg6
  have hn6 : n6 = n := by rw [← hr6.2.1]; exact hl
  subst hn6
  have kl : IntKind.i64.wrap (20 + (n6 : Int)) = 20 + (n6 : Int) := IntWalk.i64_in _ (by omega)
  have kn : ((20 + (n6 : Int)) != (20 + (n6 : Int))) = false := by simp
  have x2 : w.heap.size < w2.heap.size := by have := hb2.size; omega
  obtain ⟨W7, hW7⟩ : ∃ W, W = World.alloc w6 (.cells #[.int .u16 (id : Int), .bool more, .int .i64 place, .int .i64 proto, .int .u32 (src : Int), .int .u32 (dst : Int), .slice A6 n6 c6] 51) := ⟨_, rfl⟩
  go_wp2_with (rw [← hW7]; have p7 : PkAt W7 w6.heap.size id more place proto src dst A6 n6 c6 := (by rw [hW7]; simp [PkAt, go_sem]); have bW7 : Below w6.heap.size w6 W7 := (by rw [hW7]; exact (below_self w6).alloc (Nat.le_refl _) _); have x7 : w6.heap.size < W7.heap.size := (by rw [hW7]; simp); have q7 := q2.below (below_then hb3 (below_then hb5 (below_then hb6 bW7))) x2; obtain ⟨a0, a1, a2, a3, a4, a5, a6⟩ := q7; obtain ⟨b0, b1, b2, b3, b4, b5, b6⟩ := p7; have HW7 := Lib.hid hW7; clear hW7)
  have B37 := below_then hb5 (below_then hb6 bW7)
  have B27 := below_then hb3 B37
  have r7 := hr.below (below_then B2 B27)
  refine (same20_any id more place proto src dst A n6 c A6 n6 c6 xs W7 r7 (hr6.below bW7)).mono ?_
  rintro e w8 ⟨rfl, hb8⟩
  have q8 := q2.below (below_then B27 hb8) (by have := hb2.size; omega)
  have B8 := below_then (below_then B2 B27) hb8
  clear a0 a1 a2 a3 a4 a5 a6 b0 b1 b2 b3 b4 b5 b6
  obtain ⟨a0, a1, a2, a3, a4, a5, a6⟩ := q8
  by_cases hat : at_ < 0
  · have d3 : decide (at_ < 0) = true := decide_eq_true hat
    go_wp2_with fail
    refine (heads20 _).mono ?_
    rintro e w9 ⟨rfl, hb9⟩
    go_wp2
    go_ret
    exact ⟨rfl, below_then B8 hb9⟩
  have d3 : decide (at_ < 0) = false := decide_eq_false hat
  by_cases hb0 : by_ = 0
  · subst hb0
    go_wp2_with fail
    refine (heads20 _).mono ?_
    rintro e w9 ⟨rfl, hb9⟩
    go_wp2
    go_ret
    exact ⟨rfl, below_then B8 hb9⟩
  have d4 : ((by_ : Int) == 0) = false := by rw [beq_eq_false_iff_ne]; omega
  obtain ⟨q, hq⟩ : ∃ q : Nat, at_ % 20 = (q : Nat) := ⟨(at_ % 20).toNat, by omega⟩
  have hq20 : q < 20 := by omega
  have hq1 : at_.tmod 20 = (q : Int) := by rw [Int.tmod_eq_emod_of_nonneg (by omega), hq]
  have B38 := below_then B37 hb8
  have o8 := ho3.rd.below B38
  obtain ⟨g3, rfl, hg31, hg32⟩ := ho3.addr (by omega)
  clear hb4 hg4 ho4 ho5 hb5 hg5 a0 a1 a2 a3 a4 a5 hq
  have kq1 : (0 : Int) ≤ (q : Int) := by omega
  have kq2 : (q : Int) < 20 + (n6 : Int) := by omega
  have hx : bits .xor .u8 ((P.getD q 0).toNat : Int) (by_ : Int) = ((P.getD q 0 ^^^ UInt8.ofNat by_).toNat : Int) := by
    rw [u8_xor_nat _ _ (P.getD q 0).toNat_lt hby, UInt8.toNat_xor, UInt8.toNat_ofNat', Nat.mod_eq_of_lt (by omega)]
  have hbn : UInt8.ofNat by_ ≠ 0 := by intro h; apply hb0; have := congrArg UInt8.toNat h; rw [UInt8.toNat_ofNat', Nat.mod_eq_of_lt (by omega)] at this; exact this
  have hvn : P.getD q 0 ^^^ UInt8.ofNat by_ ≠ P.getD q 0 := xor_ne _ _ hbn
  obtain ⟨V, hV⟩ : ∃ V, P.getD q 0 ^^^ UInt8.ofNat by_ = V := ⟨_, rfl⟩
  rw [hV] at hx hvn
  have HVN := Lib.hid hvn
  clear hvn hV
  rw [List.getD_eq_getElem?_getD] at hx
  go_wp2_with (at_builtin; refine wp_appB rfl _ _ rfl ((below_self w8).alloc (Nat.le_refl _) _) (Nat.le_refl _) (by simp) _ _ _ _ rfl (own0 w8) (some ⟨g3, 0, none⟩) (20 + n6) c3 P rfl (o8.alloc _) (by omega) (20 + n6) P (by omega) (by simp) ?_; intro A9 c9 w9 ho9 hb9 hg9; obtain ⟨g9, rfl, hg91, hg92⟩ := ho9.addr (by omega); have c9q := ho9.rd.cellS q (by omega); have f9q := ho9.free q; rw [Nat.zero_add] at c9q)
  have hset := ho9.set_ q V
  have bV := hb9.setCell (p := ⟨g9, q, none⟩) hg91 (.int .u8 (V.toNat : Int))
  have hE : ipGetE (P.set q V) ≠ 0 := by
    have := HT.out q hq20 V (by rw [HP.out]; exact HVN.out)
    rw [HP.out] at this; exact this
  obtain ⟨er, her⟩ : ∃ er, ipGetE (P.set q V) = er := ⟨ipGetE (P.set q V), rfl⟩
  rw [her] at hE
  have k9 : (er != 0) = true := by rw [bne_iff_ne]; exact hE
  have hg := ipGet_any (some ⟨g9, 0, none⟩) (20 + n6) c9 (P.set q V) _ hset.rd
  rw [her] at hg
  obtain ⟨y, hy⟩ : ∃ y, ipGet (P.set q V) = y := ⟨ipGet (P.set q V), rfl⟩
  rw [hy] at hg
  refine hg.mono ?_
  clear hg her hy hE
  rintro e w10 ⟨A10, n10, c10, rfl, hr10, hb10⟩
  have B10 := below_then (below_then B8 bV) hb10
  go_wp2_with fail
  refine (heads20 _).mono ?_
  rintro e w11 ⟨rfl, hb11⟩
  go_wp2
  go_ret
  exact ⟨rfl, below_then B10 (bstep (below_self w10) hb11)⟩

theorem ipBack_law (id : Nat) (more : Bool) (place proto : Int) (src dst : Nat) (A : Option Addr) (n c : Nat) (xs : List UInt8) (B : Option Addr) (m e' : Nat) (ys : List UInt8) (at_ : Int) (by_ : Nat) (w : World) (hid : id < 65536) (hp : -9223372036854775808 ≤ place ∧ place ≤ 9223372036854775807) (ho : -9223372036854775808 ≤ proto ∧ proto ≤ 9223372036854775807) (hsrc : src < 4294967296) (hdst : dst < 4294967296) (hr : RdB w A n c xs) (hs : RdB w B m e' ys) (ha : -9223372036854775808 ≤ at_ ∧ at_ ≤ 9223372036854775807) (hby : by_ < 256) :
    Calls Try.prog 8 #[.agg #[.int .u16 id, .bool more, .int .i64 place, .int .i64 proto, .int .u32 src, .int .u32 dst, .slice A n c], .slice B m e', .int .i64 at_, .int .u8 by_] w (RetV w (.bool true)) := by
  cases hck : ipCheck place proto n with
  | false => exact ipBack_early id more place proto src dst A n c xs B m e' ys at_ by_ w hp ho hr hs (.inl hck)
  | true =>
    by_cases h : 30 < m
    · exact ipBack_early id more place proto src dst A n c xs B m e' ys at_ by_ w hp ho hr hs (.inr h)
    · exact ipBack_main id more place proto src dst A n c xs B m e' ys at_ by_ w hid hp ho hsrc hdst hr hs hby hck (by omega)
end Go.Proofs.Ytieilgphcfiapaa
