/-
  Layer 13: the law's words.
-/
import Derived.Test.YtmbdfanaegadjaaSupH
namespace Go.Proofs.Ytmbdfanaegadjaa
set_option maxRecDepth 20000
open Go.RowKit
set_option linter.unusedVariables false
set_option linter.unusedSimpArgs false
set_option maxHeartbeats 8000000

def closed13 (b : List UInt8) : List UInt8 := crcClosed ((b ++ List.replicate 252 0).take 252)
theorem closed13_any (A : Option Addr) (n c : Nat) (xs : List UInt8) (w : World) (hr : RdB w A n c xs) (hn : n ≤ 300) :
    Calls Try.prog 24 #[.slice A n c] w (RetB w (closed13 xs)) := by
  have hl := hr.2.1
  go_enter Try.func24, Try.ntmps24
  go_wp2_with (first
    | (at_builtin; refine wp_appZ rfl _ _ rfl hb4 (Nat.le_refl _) hb4.size A4 n c4 xs rfl ho4 252 .i64 252 rfl (by omega) (by omega) (n + 252) (xs ++ List.replicate 252 0) rfl rfl ?_; intro A5 c5 w5 ho5 hb5 hg5; have h1 := ho5.rd; have h2 := h1.2.2.1; have h3 := h1.c63)
    | (at_builtin; refine wp_appB rfl _ _ rfl ((below_self w).alloc (Nat.le_refl _) _) (Nat.le_refl _) (by simp) (some ⟨w.heap.size, 0, none⟩) 0 0 [] rfl (own0 w) A n c xs rfl (hr.alloc _) (by omega) n xs (by omega) (by simp) ?_; intro A4 c4 w4 ho4 hb4 hg4))
  refine (refClosed_any A5 252 c5 _ w5 (h1.take 252 (by omega)) (by omega)).mono ?_
  rintro e w9 ⟨A9, n9, c9, rfl, ho9, hb9⟩
  go_wp2
  go_ret
  exact ⟨_, _, _, rfl, OwnB.mono ho9 hb5.size, below_then hb5 hb9⟩

/-! Loads and stores of a whole head. -/
section
variable {ops : Array Oper} {rest : List Oper} {o : Oper} {a : Act} {w : World} {Q : Exit → Act → World → Prop}
theorem su_load (hgd : o.guard = none) (x : Operand) (ho : o.op = .load 26 x) (h : Nat) (hx : a.eval x = .pointer (some ⟨h, 0, none⟩)) (y : Su) (hrow : w.heap[h]? = some (.cells y.v 26 (0, 0))) (hl : y.D.length = 32)
    (hK : wpList Try.prog ops Q rest (a.put o.dst (.agg y.v)) w) : wpList Try.prog ops Q (o :: rest) a w :=
  wpList_load_row hgd 26 x ho h hx 26 y.v (0, 0) _ hrow Try.underlying26 rfl (y.info hl) hK
theorem su_loadG (hw : Region.wanted o (yielded ops a.tmps) = true) (x : Operand) (ho : o.op = .load 26 x) (h : Nat) (hx : a.eval x = .pointer (some ⟨h, 0, none⟩)) (y : Su) (hrow : w.heap[h]? = some (.cells y.v 26 (0, 0))) (hl : y.D.length = 32)
    (hK : wpList Try.prog ops Q rest (a.put o.dst (.agg y.v)) w) : wpList Try.prog ops Q (o :: rest) a w :=
  wpList_unguard hw (su_load (o := { o with guard := none }) rfl x ho h hx y hrow hl hK)
theorem su_store (hgd : o.guard = none) (x z : Operand) (ho : o.op = .store 26 x z) (h : Nat) (hx : a.eval x = .pointer (some ⟨h, 0, none⟩)) (y old : Su) (hz : a.eval z = .agg y.v) (hrow : w.heap[h]? = some (.cells old.v 26 (0, 0))) (hl : y.D.length = 32) (ho2 : old.D.length = 32)
    (hK : wpList Try.prog ops Q rest (a.put o.dst undef) (w.setRow h y.v)) : wpList Try.prog ops Q (o :: rest) a w :=
  wpList_store_row hgd 26 x z ho h y.v hx hz 26 old.v hrow (y.info hl) (Su.size _ _ ho2 hl) (suV_one ..) hK
end
theorem suRow1 (w : World) (s : Su) : (w.alloc (.cells s.v 26)).heap[w.heap.size]? = some (.cells s.v 26 (0, 0)) := row1 ..
end Go.Proofs.Ytmbdfanaegadjaa
