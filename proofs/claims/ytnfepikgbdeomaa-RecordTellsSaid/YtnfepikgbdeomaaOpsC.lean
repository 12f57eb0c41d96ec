/-
  'copy' as one operation of a region.
-/
import Derived.Test.YtnfepikgbdeomaaBld
namespace Go.Proofs.Ytnfepikgbdeomaa
set_option maxRecDepth 20000
open Go.RowKit
set_option linter.unusedVariables false
set_option linter.unusedSimpArgs false

theorem op_copyB {ops : Array Oper} {o : Oper} {a : Act} {Bd : Nat} {w0 w : World} {K : Act → World → Prop} {Q : Exit → Act → World → Prop} {E : Prop} (hgd : o.guard = none) (d s : Operand)
    (ho : o.op = .call { callee := .builtin .copy, args := #[d, s], argTypes := #[26, 26] })
    (hb : Below Bd w0 w) {base : Nat} (hbase : Bd ≤ base) (g n c : Nat) (xs : List UInt8) (hown : OwnB w base (some ⟨g, 0, none⟩) n c xs)
    (off m dn dc : Nat) (hd : a.eval d = .slice (some ⟨g, off, none⟩) dn dc) (sp : Option Addr) (sc : Nat) (ys : List UInt8) (hs : a.eval s = .slice sp m sc) (hr : RdB w sp m sc ys) (hm : 0 < m) (hle : m ≤ dn) (hoff : off + m ≤ n)
    (h : ∀ w', OwnB w' base (some ⟨g, 0, none⟩) n c (xs.take off ++ (ys ++ xs.drop (off + m))) → Below Bd w0 w' → K (a.put o.dst (.int .i64 m)) w') :
    if Region.wanted o (yielded ops a.tmps) = true then Oper.wp Try.prog o a w K Q else E := by
  have hsz : (Try.prog.info? 5).map (·.size) = some 1 := by
    obtain ⟨i, hi, _, hz, _⟩ := info_parts elemB.info
    rw [hi]; simp [hz]
  have hlen := hown.len
  rcases hown.2 with ⟨h1, _⟩ | ⟨g', cap, cur, hv, hbg, hg, hnc, hcm, hcs, htake⟩
  · cases h1
  · injection hv with h1 _ h2
    injection h1 with h1
    injection h1 with h1
    subst h1 h2
    rw [Nat.mul_one] at hcs htake
    have hg' : w.heap[g]? = some (.cells cur.toList.toArray 5 (0, 0)) := by simpa using hg
    have hcl : cur.toList.length = c := by simpa using hcs
    refine step_copy_splice hgd d s _ _ ho _ elemB.slice hsz _ sp dn dc m sc hd hs g off cur.toList _ hg' (ys.map vB) (by rw [List.length_map, hr.2.1]; exact (Nat.min_eq_left hle).symm) (fun _ => ⟨rfl, ?_⟩) (by simp [hr.2.1]; omega) (oneCell_vB _) Bd w0 hb (Nat.le_trans hbase hbg) (fun w' hw hb' => ?_)
    · obtain ⟨b, o', u, rfl, _⟩ := hr.at_ 0 hm
      refine ⟨_, rfl, fun j v hj => ?_⟩
      have hj' : j < m := by have := (List.getElem?_eq_some_iff.1 hj).1; simpa [hr.2.1] using this
      obtain ⟨b2, o2, u2, he, _, hx, hc⟩ := hr.at_ j hj'
      injection he with he
      injection he with e1 e2
      subst e1 e2
      rw [Addr.add_lit, hc, ← hj]
      simp [hx, vB]
    · have hl : (ys.map vB).length = m := by simp [hr.2.1]
      have e : (goInt (ys.map vB).length) = .int .i64 m := by rw [hl]; rfl
      rw [e]
      refine h w' ⟨?_, .inr ⟨g, c, _, rfl, hbg, hw.out, hnc, hcm, ?_, ?_⟩⟩ hb'
      · simp [hlen, hr.2.1]; omega
      · simp only [List.size_toArray, Nat.mul_one]
        rw [length_splice _ _ _ (by rw [hl, hcl]; omega), hcl]
      · rw [Nat.mul_one]
        unfold splice
        have hx : xs.map vB = cur.toList.take n := htake.symm
        rw [List.map_append, List.map_append, List.map_take, List.map_drop, hx, hl]
        simp only [List.toList_toArray]
        rw [List.take_take, Nat.min_eq_left (by omega : off ≤ n)]
        have h1 : (cur.toList.take off).length = off := by rw [List.length_take]; omega
        rw [List.take_append, h1, List.take_of_length_le (by rw [h1]; omega)]
        congr 1
        rw [List.take_append, hl, List.take_of_length_le (by rw [hl]; omega)]
        congr 1
        rw [List.drop_take]
        congr 1
        omega
end Go.Proofs.Ytnfepikgbdeomaa
