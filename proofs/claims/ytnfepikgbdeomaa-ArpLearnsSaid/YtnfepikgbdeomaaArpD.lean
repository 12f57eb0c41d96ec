/-
  Layer 19: arp: a neighbour in a variable; Check.
-/
import Derived.Test.YtnfepikgbdeomaaArpC
import Derived.Deep.MidRow
namespace Go.Proofs.Ytnfepikgbdeomaa
set_option maxRecDepth 20000
open Go.RowKit
set_option linter.unusedVariables false
set_option linter.unusedSimpArgs false
set_option maxHeartbeats 4000000

/-- A variable that holds a neighbour. -/
def NbAt (w : World) (g : Nat) (x : Nb) : Prop := w.heap[g]? = some (.cells (nbA x) 109 (0, 0))
theorem NbAt.up {w w' : World} {g : Nat} {x : Nb} (h : NbAt w g x) (hb : Below w.heap.size w w') : NbAt w' g x := drw_up h hb
theorem NbAt.lt {w : World} {g : Nat} {x : Nb} (h : NbAt w g x) : g < w.heap.size := drw_lt h
theorem NbAt.c0 {w : World} {g : Nat} {x : Nb} (h : NbAt w g x) : w.cell? ⟨g, 0, none⟩ = some (.int .u32 (x.ip : Int)) := (cell_of_row w g 0 _ _ _ h).trans rfl
theorem NbAt.c7 {w : World} {g : Nat} {x : Nb} (h : NbAt w g x) : w.cell? ⟨g, 7, none⟩ = some (.int .u64 (x.t : Int)) := (cell_of_row w g 7 _ _ _ h).trans rfl
theorem nb_info (x : Nb) : (Try.prog.info? 109).map (·.size) = some (nbA x).size := by show _ = some 8; kernel_rfl
theorem nb_infoV (x : Nb) : (Try.prog.info? 109).map (·.size) = some (nbV x).length := by show _ = some 8; kernel_rfl
theorem nbA_one (x : Nb) : (nbA x).all (·.oneCell') = true := by simp [nbA, Value.oneCell']
/-- A neighbour among others. -/
def NbIn (w : World) (b o : Nat) (x : Nb) : Prop := b < w.heap.size ∧ w.rangeAt b o (nbV x)
theorem NbIn.up {w w' : World} {b o : Nat} {x : Nb} (h : NbIn w b o x) (hb : Below w.heap.size w w') : NbIn w' b o x := ⟨Nat.lt_of_lt_of_le h.1 hb.size, fun j v hv => (hb.cell (p := ⟨b, o + j, none⟩) h.1).trans (h.2 j v hv)⟩
theorem RdNb.nb {w : World} {A : Option Addr} {n c : Nat} {l : List Nb} (h : RdNb w A n c l) (k : Nat) (hk : k < n) : ∃ b o, A = some ⟨b, o, none⟩ ∧ b < w.heap.size ∧ (l.getD k nb0).ok ∧ NbIn w b (o + k * 8) (l.getD k nb0) := by
  obtain ⟨b, o, x, he, hb, hx, hok, hc⟩ := h.at_ k hk
  have e : l.getD k nb0 = x := by rw [List.getD, hx]; rfl
  rw [e]
  exact ⟨b, o, he, hb, hok, hb, fun j v hv => by rw [Nat.add_assoc]; exact hc j v hv⟩
section
variable {ops : Array Oper} {rest : List Oper} {o : Oper} {a : Act} {w : World} {Q : Exit → Act → World → Prop} {h : Nat} {x : Nb}
theorem nb_load (hgd : o.guard = none) (z : Operand) (ho : o.op = .load 109 z) (hx : a.eval z = .pointer (some ⟨h, 0, none⟩)) (v : NbAt w h x)
    (hK : wpList Try.prog ops Q rest (a.put o.dst (.agg (nbA x))) w) : wpList Try.prog ops Q (o :: rest) a w :=
  wpList_load_row hgd 109 z ho h hx 109 (nbA x) (0, 0) _ v Try.underlying109 rfl (nb_info x) hK
theorem nb_mid (hgd : o.guard = none) (z : Operand) (ho : o.op = .load 109 z) (b f : Nat) (hx : a.eval z = .pointer (some ⟨b, f, none⟩)) (v : NbIn w b f x)
    (hK : wpList Try.prog ops Q rest (a.put o.dst (.agg (nbA x))) w) : wpList Try.prog ops Q (o :: rest) a w :=
  wpList_load_mid hgd 109 z ho b f hx (nbV x) _ v.2 Try.underlying109 rfl (nb_infoV x) hK
theorem nb_fresh (hgd : o.guard = none) (y z : Operand) (ho : o.op = .store 109 y z) (hy : a.eval y = .pointer (some ⟨h, 0, none⟩)) (hz : a.eval z = .agg (nbA x)) (w0 : World) (hw : w = w0.alloc (.cells #[.int .u32 0, .int .u8 0, .int .u8 0, .int .u8 0, .int .u8 0, .int .u8 0, .int .u8 0, .int .u64 0] 109)) (hh : w0.heap.size = h)
    (hK : ∀ X, Hid (NbAt X h x) → Below w0.heap.size w0 X → wpList Try.prog ops Q rest (a.put o.dst undef) X) : wpList Try.prog ops Q (o :: rest) a w := by
  subst hw
  have hrow := drw_at (w := w0) (.cells #[.int .u32 0, .int .u8 0, .int .u8 0, .int .u8 0, .int .u8 0, .int .u8 0, .int .u8 0, .int .u64 0] 109) hh
  have hb : Below w0.heap.size w0 ((w0.alloc (.cells #[.int .u32 0, .int .u8 0, .int .u8 0, .int .u8 0, .int .u8 0, .int .u8 0, .int .u8 0, .int .u64 0] 109)).setRow h (nbA x)) := below_setRow ((below_self w0).alloc (Nat.le_refl _) _) (by omega) _
  exact wpList_store_row hgd 109 y z ho h _ hy hz 109 _ hrow (nb_info x) (by rfl) (nbA_one x) (hK _ (Lib.hid (setRow_heap _ _ _ (nbA x) _ _ hrow)) hb)
end
theorem nbx_load {P : Program} {o : Oper} {a : Act} {w : World} {ty : TypeId} {x : Operand} {p : Addr} {v : Value} (ho : o.op = .load ty x) (hx : a.eval x = .pointer (some p)) (hl : (loadVar ty p).run P w = .ok v w) : (execOp a.eval o).run P w = .ok (.value v) w := by
  unfold execOp
  simp only [ho, hx, Instr.loadAt, Instr.sureAddr, Sem.run_bind, Sem.run_pure, Result.andThen_ok, hl]
theorem nb_run {w w' : World} {h : Nat} {x : Nb} (v : NbAt w h x) (hb : Below w.heap.size w w') : (loadVar 109 ⟨h, 0, none⟩).run Try.prog w' = .ok (.agg (nbA x)) w' :=
  run_loadVar_row w' h 109 109 (nbA x) (0, 0) _ (v.up hb) Try.underlying109 rfl (nb_info x)
theorem nb_runm {w w' : World} {b f : Nat} {x : Nb} (v : NbIn w b f x) (hb : Below w.heap.size w w') : (loadVar 109 ⟨b, f, none⟩).run Try.prog w' = .ok (.agg (nbA x)) w' :=
  run_loadVar_mid w' b f 109 (nbV x) _ (v.up hb).2 Try.underlying109 rfl (nb_infoV x)
end Go.Proofs.Ytnfepikgbdeomaa
