/-
  Layer 3: words turned.
-/
import Derived.Test.YtnfepikgbdeomaaShaMath
import Derived.Test.YtnfepikgbdeomaaNumC
import Derived.Test.YtnfepikgbdeomaaAppZ
import Derived.Test.YtnfepikgbdeomaaMark
import Derived.Test.YtnfepikgbdeomaaAid
namespace Go.Proofs.Ytnfepikgbdeomaa
set_option maxRecDepth 20000
open Go.RowKit
set_option linter.unusedVariables false
set_option linter.unusedSimpArgs false
set_option maxHeartbeats 8000000

def vI (k : Nat) : Value := .int .i64 (k : Int)
theorem u32w (k : Nat) : IntKind.u32.wrap (k : Int) = ((k % 4294967296 : Nat) : Int) := by rw [IntKind.wrap_u32]; omega
theorem ror_val (x n : Nat) (hx : x < 4294967296) : bits .or .u32 ((x : Int) / 2 ^ n) (IntKind.u32.wrap ((x : Int) * 2 ^ (32 - n))) = ((ror x n : Nat) : Int) := by
  have e1 : (x : Int) / 2 ^ n = ((x / 2 ^ n : Nat) : Int) := by push_cast; rfl
  have e2 : (x : Int) * 2 ^ (32 - n) = ((x * 2 ^ (32 - n) : Nat) : Int) := by push_cast; rfl
  rw [e1, e2, u32w, u32_or_nat _ _ (Nat.lt_of_le_of_lt (Nat.div_le_self _ _) hx) (Nat.mod_lt _ (by omega))]
  rfl
theorem shaRight_any (x n : Nat) (w : World) (hx : x < 4294967296) (h1 : 1 ≤ n) (h2 : n ≤ 31) : Calls Try.prog 173 #[.int .u32 x, .int .i64 n] w (RetV w (.int .u32 (ror x n : Nat))) := by
  have k1 := ror_val x n hx
  have k3 : (32 : Int) - (n : Int) = ((32 - n : Nat) : Int) := by omega
  have k4 := wi64n (k := 32 - n) (by omega)
  have k5 : ((32 - n : Nat) : Int) ≤ 32 := by omega
  go_enter Try.func173, Try.ntmps173
  go_wp2_with fail
  refine wp_region_plan (S := fun w' => Below w.heap.size w w') [(0, true), (1, true), (2, true), (3, true), (4, true), (5, true), (6, true), (7, true), (8, true)] (by kernel_rfl) (by kernel_rfl) (fun _ _ d _ _ h => by cases d <;> exact h) ((Below.refl _ w).drew) ?_
  iterate 9 (refine plan_take (v := ?_) rfl (Or.inl ⟨by rfl, ?_⟩) ?_; rotate_left; (focus (intro w' hw'; go_simp <;> with_reducible rfl)); try simp only [Act.put, List.setIfInBounds_toArray, List.set_cons_zero, List.set_cons_succ])
  refine plan_done ?_
  go_wp2
  go_ret
  exact ⟨by rw [← k1]; rfl, (Below.refl _ _).drew⟩
theorem refRot_any (x n : Nat) (w : World) (hx : x < 4294967296) (h1 : 1 ≤ n) (h2 : n ≤ 31) : Calls Try.prog 129 #[.int .u32 x, .int .u64 n] w fun e w' => e = .returned (.int .u32 (ror x n : Nat)) ∧ w = w' := by
  have k1 := ror_val x n hx
  have k3 : (32 : Int) - (n : Int) = ((32 - n : Nat) : Int) := by omega
  go_enter Try.func129, Try.ntmps129
  go_wp2
  go_ret
  exact ⟨by rw [← k1, IntKind.wrap_u32]; rfl, rfl⟩
def MixI (w : World) (x n : Nat) (ts : List Nat) (v5 v10 : Value) (wr : World) : Prop := ∃ k : Nat, k ≤ n ∧ v10 = .int .i64 k ∧ v5 = .int .u32 (shMix x (ts.take k) : Nat) ∧ Below w.heap.size w wr
theorem mixed_any (x : Nat) (A : Option Addr) (n c : Nat) (ts : List Nat) (w : World) (hx : x < 4294967296) (hr : Rd w A (ts.map vI)) (hn : ts.length = n) (hs : n ≤ 100) (ht : ∀ t ∈ ts, 1 ≤ t ∧ t ≤ 31) :
    Calls Try.prog 168 #[.int .u32 x, .slice A n c] w (RetV w (.int .u32 (shMix x ts : Nat))) := by
  have HN := Lib.hid hn
  have HT := Lib.hid ht
  clear hn ht
  go_enter Try.func168, Try.ntmps168
  go_wp2_with fail
  go_loopw [5, 10] (MixI w x n ts) (fun _ i _ => n - (intOf i).toNat)
  case atStart => exact ⟨0, Nat.zero_le _, rfl, rfl, Below.refl _ _⟩
  case round =>
    obtain ⟨k, hk, rfl, rfl, hb⟩ := hrel
    by_cases hlt : k < n
    · have hkl : k < ts.length := by rw [HN.out]; exact hlt
      obtain ⟨b, o, rfl, hbl, hc⟩ := (hr.below hb).at_ k (by simpa using hkl)
      obtain ⟨t, het⟩ : ∃ t, ts[k] = t := ⟨_, rfl⟩
      have ht := HT.out t (by rw [← het]; exact List.getElem_mem hkl)
      have hc' : wr.cell? ⟨b, o + k, none⟩ = some (.int .i64 (t : Int)) := by rw [hc]; simp [vI, het]
      have hsn : ts.take (k + 1) = ts.take k ++ [t] := by rw [take_snoc ts k hkl, het]
      have hm := shMix_lt hx (ts.take k)
      have hsm := shMix_snoc x (ts.take k) t
      have hxr := u32_xor_nat (shMix x (ts.take k)) (ror x t) hm (ror_lt t hx)
      have HS := Lib.hid (show ((shMix x (ts.take (k + 1)) : Nat) : Int) = bits .xor .u32 ((shMix x (ts.take k) : Nat) : Int) ((ror x t : Nat) : Int) by rw [hsn, hsm, hxr])
      generalize shMix x (ts.take k) = S at *
      clear hsn hsm hxr hc het hkl
      go_wp2_with fail
      refine (shaRight_any x t wr hx ht.1 ht.2).mono ?_
      rintro e w2 ⟨rfl, hb2⟩
      go_wp2
      go_roundw
      case rel => exact ⟨k + 1, by omega, by go_num, by rw [HS.out], below_then hb hb2⟩
      case measure => simp [intOf]; omega
    · obtain rfl : k = n := by omega
      have ha : ts.take k = ts := by rw [← HN.out, List.take_length]
      rw [ha]
      clear ha
      go_wp2
      go_ret
      exact ⟨rfl, hb⟩
end Go.Proofs.Ytnfepikgbdeomaa
