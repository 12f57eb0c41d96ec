/-
  How an argument that came in is read: a state of eight words; rows of words compared.
-/
import Derived.Test.YtmbdfanaegadjaaOpenD
import Derived.Test.YtmbdfanaegadjaaSupE
import Derived.Test.YtmbdfanaegadjaaShaE
namespace Go.Proofs.Ytmbdfanaegadjaa
set_option maxRecDepth 20000
open Go.ChangeShapes Go.WideShapes Go.ChangeAt Go.RowKit Go.Deep
set_option linter.unusedVariables false
set_option linter.unusedSimpArgs false
set_option maxHeartbeats 2000000

theorem words_of_cells : ∀ (cs : List Value), (∀ (i : Nat) (v : Value), cs[i]? = some v → ∃ n : Nat, n < 4294967296 ∧ v = vW n) → ∃ D : List Nat, cs = D.map vW ∧ ∀ n ∈ D, n < 4294967296
  | [], _ => ⟨[], rfl, by simp⟩
  | c :: cs, h => by
    obtain ⟨n, hn, hu⟩ := h 0 c rfl
    obtain ⟨D, hD, hb⟩ := words_of_cells cs (fun i v hv => h (i + 1) v (by simpa using hv))
    refine ⟨n :: D, by rw [hu, hD]; rfl, fun m hm => ?_⟩
    rcases List.mem_cons.1 hm with rfl | hm
    · exact hn
    · exact hb _ hm
/-- A state that came in. -/
theorem open_h8 {H : Type} {enc : TypeId × Value → H} {W : World} {base : Nat} {v : Value} {d0 : DataW H} {p : List MemPlace} (hv : Value.okWide Try.prog W .any base 49 v)
    (h : ∃ fuel, DataW.trod enc Try.prog W 0 (fun _ => true) true fuel 49 v.cells.toList = some (d0, p)) :
    ∃ x : H8, v = .agg (wsV x.l) ∧ x.ok := by
  obtain ⟨cs, rfl, hsz⟩ := okWide_array Try.underlying49 hv
  obtain ⟨fuel, hf⟩ := h
  have hN : Try.prog.cellsOf 49 = 8 := by kernel_rfl
  rw [hN] at hsz
  obtain ⟨cs⟩ := cs
  have hl : cs.length = 8 := by simpa using hsz
  have hf' : DataW.trod enc Try.prog W 0 (fun _ => true) true fuel 49 cs = some (d0, p) := by simpa [Value.cells] using hf
  obtain ⟨ys, n, _, _, _, hl2, hg⟩ := DataW.trod_array Try.underlying49 hf'
  have hc : Try.prog.cellsOf 22 = 1 := by kernel_rfl
  obtain ⟨D, rfl, hb⟩ := words_of_cells cs (fun i v hv => by
    have hi : i < cs.length := (List.getElem?_eq_some_iff.1 hv).1
    have h := hg i (by omega)
    rw [hc, Nat.mul_one, List.drop_eq_getElem_cons hi, List.take_succ_cons, List.take_zero, List.getElem?_eq_getElem (by omega)] at h
    obtain ⟨k, hk, _, hw⟩ := DataW.trod_int Try.underlying22 h
    obtain ⟨q, rfl, hq⟩ := nat_u32 hw
    rw [List.getElem?_eq_getElem hi] at hv
    injection hv with hv
    injection hk with hk
    exact ⟨q, hq, by rw [← hv, hk]; rfl⟩)
  have hD : D.length = 8 := by simpa using hl
  match D, hD with
  | [a, b, c, d, e, f, g, h], _ =>
    refine ⟨⟨a, b, c, d, e, f, g, h⟩, rfl, ?_⟩
    simp only [List.mem_cons, List.not_mem_nil, or_false, forall_eq_or_imp, forall_eq] at hb
    exact hb
def litW (n : Nat) : Lit := .int .u32 (n : Int)
theorem keyLits_u32 (d : Nat) (n : Nat) (h : n < 4294967296) : Try.prog.keyLits (d + 1) 22 [vW n] = some [litW n] := by
  unfold Program.keyLits vW litW
  rw [Try.underlying22]
  simp [Lit.wf, IntKind.min, IntKind.max, IntKind.signed, IntKind.bits]
  omega
theorem flat_singleW (D : List Nat) (f : Nat → Lit) : ((List.range D.length).map fun i => [f (D.getD i 0)]).flatten = D.map f := by
  rw [← List.flatMap_def, ← List.map_eq_flatMap]
  apply List.ext_getElem
  · simp
  · intro i h1 h2
    have : i < D.length := by simpa using h2
    simp [List.getD, this]
theorem keyLits_ws (t : TypeId) (N : Nat) (ht : Try.prog.underlying t = some (.array N 22)) (c2 : Try.prog.cellsOf t = N) (d : Nat) (D : List Nat) (h : D.length = N) (hb : ∀ n ∈ D, n < 4294967296) : Try.prog.keyLits (d + 2) t (D.map vW) = some (D.map litW) := by
  have c1 : Try.prog.cellsOf 22 = 1 := by kernel_rfl
  unfold Program.keyLits
  rw [ht]
  simp only []
  rw [if_pos (by rw [c2, List.length_map, h])]
  rw [mapM_some _ (fun i => [litW (D.getD i 0)]) (List.range N) (fun i hi => ?_)]
  · have e := flat_singleW D litW
    rw [h] at e
    rw [Option.map_some, e]
  · have hi' : i < D.length := by rw [h]; simpa using hi
    rw [c1, Nat.mul_one, List.drop_eq_getElem_cons (by simpa using hi')]
    simp only [List.getElem_map, List.take_succ_cons, List.take_zero]
    rw [keyLits_u32 _ _ (hb _ (List.getElem_mem hi'))]
    simp [List.getD, hi']
theorem formed_ws (t : TypeId) (N : Nat) (ht : Try.prog.underlying t = some (.array N 22)) (c2 : Try.prog.cellsOf t = N) (D : List Nat) (h : D.length = N) : (Value.agg (wsV D)).formed Try.prog t = true := by
  unfold Value.formed; rw [ht]
  simp [c2, wsV, h]
theorem ws_self (t : TypeId) (N : Nat) (ht : Try.prog.underlying t = some (.array N 22)) (c2 : Try.prog.cellsOf t = N) (hk : Try.prog.keyTypeAt 4 t = true) (D : List Nat) (h : D.length = N) (hb : ∀ n ∈ D, n < 4294967296) (W : World) : (Op.equalIn 10000 t (.agg (wsV D)) (.agg (wsV D))).run Try.prog W = .ok true W := by
  have hf := formed_ws t N ht c2 D h
  have hl := keyLits_ws t N ht c2 0 D h hb
  obtain ⟨r, hr, hiff⟩ := run_equalIn_deep (P := Try.prog) 9996 4 t hk W 2 2 _ _ _ _ hf hf hl hl
  rw [show (10000 : Nat) = 9996 + 4 from rfl, hr, hiff.2 rfl]
theorem w8_self (D : List Nat) (h : D.length = 8) (hb : ∀ n ∈ D, n < 4294967296) (W : World) : (Op.equalIn 10000 49 (.agg (wsV D)) (.agg (wsV D))).run Try.prog W = .ok true W :=
  ws_self 49 8 Try.underlying49 (by kernel_rfl) (by kernel_rfl) D h hb W
theorem w64_self (D : List Nat) (h : D.length = 64) (hb : ∀ n ∈ D, n < 4294967296) (W : World) : (Op.equalIn 10000 50 (.agg (wsV D)) (.agg (wsV D))).run Try.prog W = .ok true W :=
  ws_self 50 64 Try.underlying50 (by kernel_rfl) (by kernel_rfl) D h hb W
theorem H8.all_lt {x : H8} (h : x.ok) : ∀ n ∈ x.l, n < 4294967296 := by
  intro n hn
  obtain ⟨h1, h2, h3, h4, h5, h6, h7, h8⟩ := h
  simp only [H8.l, List.mem_cons, List.not_mem_nil, or_false] at hn
  rcases hn with rfl | rfl | rfl | rfl | rfl | rfl | rfl | rfl <;> assumption
end Go.Proofs.Ytmbdfanaegadjaa
