/-
  Layer 21: frag: a map of owners; Check.
-/
import Derived.Test.YteajboafcjeagaaFrgB
import Derived.Test.YteajboafcjeagaaSupE
namespace Go.Proofs.Yteajboafcjeagaa
set_option maxRecDepth 20000
open Go.RowKit
set_option linter.unusedVariables false
set_option linter.unusedSimpArgs false
set_option maxHeartbeats 8000000

abbrev OwT := Nat × Nat × Nat × Int
def owK (o : OwT) : Value := .agg (owV o.1 o.2.1 o.2.2.1 o.2.2.2)
def Fr.ow (x : Fr) : OwT := (x.src, x.dst, x.id, x.proto)
def OwOk (o : OwT) : Prop := o.1 < 4294967296 ∧ o.2.1 < 4294967296 ∧ o.2.2.1 < 65536 ∧ (-9223372036854775808 ≤ o.2.2.2 ∧ o.2.2.2 ≤ 9223372036854775807)
theorem Fr.ok.ow {x : Fr} (h : x.ok) : OwOk x.ow := ⟨h.src, h.dst, h.id, h.proto⟩
def owL (o : OwT) : List Lit := [[.int .u32 (o.1 : Int)], [.int .u32 (o.2.1 : Int)], [.int .u16 (o.2.2.1 : Int)], [.int .i64 o.2.2.2]].flatten
theorem owL_inj (a b : OwT) : owL a = owL b ↔ a = b := by
  obtain ⟨a1, a2, a3, a4⟩ := a
  obtain ⟨b1, b2, b3, b4⟩ := b
  simp [owL]
  constructor
  · rintro ⟨h1, h2, h3, h4⟩; exact ⟨by omega, by omega, by omega, h4⟩
  · rintro ⟨rfl, rfl, rfl, rfl⟩; exact ⟨rfl, rfl, rfl, rfl⟩
theorem keyLits_ow (o : OwT) (h : OwOk o) : Try.prog.keyLits 2 98 (owV o.1 o.2.1 o.2.2.1 o.2.2.2).toList = some (owL o) := by
  obtain ⟨h1, h2, h3, h4⟩ := h
  have c0 : Try.prog.cellsOf 98 = 4 := by kernel_rfl
  have c1 : Try.prog.cellsOf 59 = 1 := by kernel_rfl
  have c2 : Try.prog.cellsOf 58 = 1 := by kernel_rfl
  have c3 : Try.prog.cellsOf 3 = 1 := by kernel_rfl
  have k0 : ∀ n : Nat, n < 4294967296 → Try.prog.keyLits 1 59 [.int .u32 (n : Int)] = some [.int .u32 (n : Int)] := by
    intro n hn
    unfold Program.keyLits; rw [Try.underlying59]; simp [Lit.wf, IntKind.min, IntKind.max, IntKind.signed, IntKind.bits]; omega
  have k1 : ∀ n : Nat, n < 65536 → Try.prog.keyLits 1 58 [.int .u16 (n : Int)] = some [.int .u16 (n : Int)] := by
    intro n hn
    unfold Program.keyLits; rw [Try.underlying58]; simp [Lit.wf, IntKind.min, IntKind.max, IntKind.signed, IntKind.bits]; omega
  have k2 : ∀ z : Int, (-9223372036854775808 ≤ z ∧ z ≤ 9223372036854775807) → Try.prog.keyLits 1 3 [.int .i64 z] = some [.int .i64 z] := by
    intro z hz
    unfold Program.keyLits; rw [Try.underlying3]; simp [Lit.wf, IntKind.min, IntKind.max, IntKind.signed, IntKind.bits]; omega
  have hv : (owV o.1 o.2.1 o.2.2.1 o.2.2.2).toList = [.int .u32 (o.1 : Int), .int .u32 (o.2.1 : Int), .int .u16 (o.2.2.1 : Int), .int .i64 o.2.2.2] := rfl
  rw [hv]
  unfold Program.keyLits
  rw [Try.underlying98]
  simp only []
  rw [if_pos ⟨by rw [c0]; rfl, by decide +kernel⟩]
  simp [c1, c2, c3, k0 _ h1, k0 _ h2, k1 _ h3, k2 _ h4, owL]
theorem formed_ow (o : OwT) : (owK o).formed Try.prog 98 = true := by
  have c2 : Try.prog.cellsOf 98 = 4 := by kernel_rfl
  unfold owK Value.formed; rw [Try.underlying98]
  simp [c2, owV]
theorem run_equal_ow (a b : OwT) (ha : OwOk a) (hb : OwOk b) (w : World) : (Op.equal 98 (owK a) (owK b)).run Try.prog w = .ok (decide (a = b)) w := by
  obtain ⟨r', hr', hiff⟩ := run_equalIn_deep (P := Try.prog) 9996 4 98 (by kernel_rfl) w 2 2 _ _ _ _ (formed_ow a) (formed_ow b) (keyLits_ow a ha) (keyLits_ow b hb)
  rw [owL_inj] at hiff
  show (Op.equalIn 10000 98 (owK a) (owK b)).run Try.prog w = _
  rw [show (10000 : Nat) = 9996 + 4 from rfl, hr']
  congr 1
  rw [Bool.eq_iff_iff, hiff]; simp
theorem run_check_ow (b : Bool) (o : OwT) (w : World) : (Instr.checkKey b 10000 98 (owK o)).run Try.prog w = .ok () w := by
  unfold owK owV
  kernel_rfl
/-- A map that holds these owners. -/
def OMap (w : World) (mb : Nat) (os : List OwT) : Prop := ∃ es clock, w.heap[mb]? = some (.map es clock) ∧ es.toList.map (·.key) = os.map owK ∧ ∀ e ∈ es.toList, e.val = .bool true
theorem OMap.up {w w' : World} {mb : Nat} {os : List OwT} (h : OMap w mb os) (hb : Below w.heap.size w w') : OMap w' mb os := by
  obtain ⟨es, clock, h1, h2⟩ := h
  exact ⟨es, clock, frw_up h1 hb, h2⟩
theorem run_find_ow (o : OwT) (ho : OwOk o) (w : World) : ∀ (es : List MapEntry) (os : List OwT) (i : Nat), es.map (·.key) = os.map owK → (∀ e ∈ es, e.val = .bool true) → (∀ q ∈ os, OwOk q) →
    ∃ r, (Instr.findAsking 98 (owK o) es i).run Try.prog w = .ok r w ∧ (o ∈ os → ∃ j, r = some (j, .bool true)) ∧ (o ∉ os → r = none)
  | [], [], i, _, _, _ => ⟨none, rfl, fun h => (by cases h), fun _ => rfl⟩
  | [], q :: os, _, h, _, _ => by cases h
  | e :: es, [], _, h, _, _ => by cases h
  | e :: es, q :: os, i, h, hv, hok => by
    simp only [List.map_cons, List.cons.injEq] at h
    have hq := hok q (by simp)
    have he := run_equal_ow o q ho hq w
    by_cases hoq : o = q
    · refine ⟨some (i, .bool true), ?_, fun _ => ⟨i, rfl⟩, fun hn => absurd (by rw [hoq]; simp) hn⟩
      rw [hoq] at he ⊢
      simp [Instr.findAsking, h.1, he, hv e (by simp)]
    · obtain ⟨r, hr, h1, h2⟩ := run_find_ow o ho w es os (i + 1) h.2 (fun e he => hv e (by simp [he])) (fun q hq => hok q (by simp [hq]))
      refine ⟨r, ?_, fun hm => h1 (by simpa [hoq] using hm), fun hn => h2 (fun hh => hn (by simp [hh]))⟩
      simp [Instr.findAsking, h.1, he, hoq, hr]
theorem run_findKey_ow (o : OwT) (ho : OwOk o) (w : World) (es : List MapEntry) (os : List OwT) (h : es.map (·.key) = os.map owK) (hv : ∀ e ∈ es, e.val = .bool true) (hok : ∀ q ∈ os, OwOk q) :
    ∃ r, (Instr.findKey 98 (owK o) es).run Try.prog w = .ok r w ∧ (o ∈ os → ∃ j, r = some (j, .bool true)) ∧ (o ∉ os → r = none) := by
  match es, os, h with
  | [], [], _ => exact ⟨none, by simp [Instr.findKey, run_underlying Try.underlying98, Instr.findNow], fun h => (by cases h), fun _ => rfl⟩
  | e :: es, q :: os, h =>
    obtain ⟨r, hr, h1, h2⟩ := run_find_ow o ho w (e :: es) (q :: os) 0 h hv hok
    refine ⟨r, ?_, h1, h2⟩
    have hn : ∀ (fs : Array Field) (v : Value), Instr.sameNow (.struct fs) (owK o) v = none := fun fs v => by unfold owK; cases v <;> rfl
    simp [Instr.findKey, run_underlying Try.underlying98, Instr.findNow, hn, hr]
theorem OMap.look {w : World} {mb : Nat} {os : List OwT} (h : OMap w mb os) (o : OwT) (ho : OwOk o) (hok : ∀ q ∈ os, OwOk q) (hn : o ∉ os) :
    (Instr.lookup 95 (.map (some mb)) (owK o) false).run Try.prog w = .ok (.bool false) w := by
  obtain ⟨es, clock, h1, h2, h3⟩ := h
  obtain ⟨r, hr, _, hr2⟩ := run_findKey_ow o ho w es.toList os h2 h3 hok
  obtain rfl := hr2 hn
  have hz : (zeroValue 4).run Try.prog w = .ok (.bool false) w := by kernel_rfl
  have hg : (getObj mb).run Try.prog w = .ok (.map es clock) w := by simp [getObj, Sem.run, h1]
  simp [Instr.lookup, run_underlying Try.underlying95, hg, run_check_ow, hr, hz]
theorem OMap.put {w : World} {mb : Nat} {os : List OwT} (h : OMap w mb os) (o : OwT) (ho : OwOk o) (hok : ∀ q ∈ os, OwOk q) (hn : o ∉ os) :
    ∃ w', (Instr.mapUpdate 95 (.map (some mb)) (owK o) (.bool true)).run Try.prog w = .ok () w' ∧ OMap w' mb (os ++ [o]) ∧ Below mb w w' := by
  obtain ⟨es, clock, h1, h2, h3⟩ := h
  obtain ⟨r, hr, _, hr2⟩ := run_findKey_ow o ho w es.toList os h2 h3 hok
  obtain rfl := hr2 hn
  have hg : (getObj mb).run Try.prog w = .ok (.map es clock) w := by simp [getObj, Sem.run, h1]
  have hlt : mb < w.heap.size := frw_lt h1
  obtain ⟨w', hw'⟩ : ∃ w', w' = { w with heap := w.heap.setIfInBounds mb (.map (es.push ⟨owK o, .bool true, clock⟩) (clock + 1)) } := ⟨_, rfl⟩
  have hs : (setObj mb (.map (es.push ⟨owK o, .bool true, clock⟩) (clock + 1))).run Try.prog w = .ok () w' := by
    have hlk : w.heap[mb] = .map es clock := (Array.getElem?_eq_some_iff.1 h1).2
    simp [setObj, Sem.run, hw', hlt, hlk]
  refine ⟨w', ?_, ⟨es.push ⟨owK o, .bool true, clock⟩, clock + 1, by rw [hw']; simp [hlt], ?_, ?_⟩, ?_⟩
  · simp [Instr.mapUpdate, run_underlying Try.underlying95, hg, run_check_ow, hr, hs]
  · simp [h2]
  · intro e he
    rw [Array.toList_push, List.mem_append] at he
    rcases he with he | he
    · exact h3 e he
    · simp at he; rw [he]
  · rw [hw']
    exact ⟨rfl, rfl, rfl, by simp, fun k hk => by simp [Nat.ne_of_gt hk]⟩
end Go.Proofs.Yteajboafcjeagaa
