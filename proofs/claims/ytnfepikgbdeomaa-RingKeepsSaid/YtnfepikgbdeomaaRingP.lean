/-
  Layer 7: rings: the plain law: what is put is got, what lies elsewhere stays.
-/
import Derived.Test.YtnfepikgbdeomaaRingJ
namespace Go.Proofs.Ytnfepikgbdeomaa
set_option maxRecDepth 20000
set_option linter.unusedVariables false
set_option linter.unusedSimpArgs false
/-! Numbers put and got -/
theorem memPutN_eq {xs : List UInt8} {a s x : Nat} (hL : xs.length ≤ 8192) (h1 : 1 ≤ s) (h8 : s ≤ 8) (hi : a + s ≤ xs.length) : memPutN xs (a : Int) (s : Int) x = xs.take a ++ (leB x s ++ xs.drop (a + s)) := by
  have hsz : memSz xs.length (s : Int) = 0 := by unfold memSz; rw [if_pos hL, if_neg (by omega), if_neg (by omega)]
  have hcl : clamp (s : Int) = s := by unfold clamp; rw [if_neg (by omega), if_neg (by omega), Int.toNat_natCast]
  have hask : memAsk xs.length (a : Int) (s : Int) = 0 := by
    unfold memAsk memIn
    rw [if_pos hL, if_pos]
    simp only [Bool.and_eq_true, decide_eq_true_eq]
    omega
  unfold memPutN memPut
  rw [if_pos hsz, hcl, leB_length, if_pos hask, Int.toNat_natCast]
theorem memNum_eq {xs : List UInt8} {a s : Nat} (hL : xs.length ≤ 8192) (h1 : 1 ≤ s) (h8 : s ≤ 8) (hi : a + s ≤ xs.length) : memNum xs (a : Int) (s : Int) = lev ((xs.drop a).take s) := by
  have hsz : memSz xs.length (s : Int) = 0 := by unfold memSz; rw [if_pos hL, if_neg (by omega), if_neg (by omega)]
  have hask : memAsk xs.length (a : Int) (s : Int) = 0 := by
    unfold memAsk memIn
    rw [if_pos hL, if_pos]
    simp only [Bool.and_eq_true, decide_eq_true_eq]
    omega
  unfold memNum fromLe memGet
  rw [if_pos hsz, if_pos hask, Int.toNat_natCast, Int.toNat_natCast, List.take_take, Nat.min_eq_right h8]
theorem memPutN_get {xs : List UInt8} {a s x : Nat} (hL : xs.length ≤ 8192) (h1 : 1 ≤ s) (h8 : s ≤ 8) (hi : a + s ≤ xs.length) (i : Nat) (ho : i < a ∨ a + s ≤ i) : (memPutN xs (a : Int) (s : Int) x)[i]? = xs[i]? := by
  rw [memPutN_eq hL h1 h8 hi]
  rcases ho with h | h
  · rw [List.getElem?_append_left (by simp; omega), List.getElem?_take, if_pos h]
  · rw [List.getElem?_append_right (by simp; omega), List.getElem?_append_right (by simp [leB_length]; omega), List.getElem?_drop]
    congr 1
    simp [leB_length]
    omega
theorem memPutN_l {xs : List UInt8} {a s : Int} {x : Nat} : (memPutN xs a s x).length = xs.length := memPutN_len xs a s x
theorem memNum_cong {xs ys : List UInt8} {o t : Nat} (hL : xs.length ≤ 8192) (hy : ys.length = xs.length) (h1 : 1 ≤ t) (h8 : t ≤ 8) (hi : o + t ≤ xs.length) (h : ∀ i, o ≤ i → i < o + t → ys[i]? = xs[i]?) : memNum ys (o : Int) (t : Int) = memNum xs (o : Int) (t : Int) := by
  rw [memNum_eq (by omega) h1 h8 (by omega), memNum_eq hL h1 h8 hi]
  congr 1
  apply List.ext_getElem?
  intro i
  rw [List.getElem?_take, List.getElem?_take]
  split
  · rw [List.getElem?_drop, List.getElem?_drop]
    exact h _ (by omega) (by omega)
  · rfl
theorem memNum_far {xs : List UInt8} {a s x o t : Nat} (hL : xs.length ≤ 8192) (h1 : 1 ≤ s) (h8 : s ≤ 8) (hi : a + s ≤ xs.length) (g1 : 1 ≤ t) (g8 : t ≤ 8) (gi : o + t ≤ xs.length) (ho : o + t ≤ a ∨ a + s ≤ o) : memNum (memPutN xs (a : Int) (s : Int) x) (o : Int) (t : Int) = memNum xs (o : Int) (t : Int) :=
  memNum_cong hL (memPutN_len ..) g1 g8 gi (fun i h2 h3 => memPutN_get hL h1 h8 hi i (by omega))
theorem memNum_put {xs : List UInt8} {a s x : Nat} (hL : xs.length ≤ 8192) (h1 : 1 ≤ s) (h8 : s ≤ 8) (hi : a + s ≤ xs.length) : memNum (memPutN xs (a : Int) (s : Int) x) (a : Int) (s : Int) = x % 256 ^ s := by
  rw [memNum_eq (by rw [memPutN_len]; exact hL) h1 h8 (by rw [memPutN_len]; exact hi), memPutN_eq hL h1 h8 hi, List.drop_left' (by simp; omega), List.take_left' (leB_length ..), lev_leB]
theorem leB_lev (us : List UInt8) : leB (lev us) us.length = us := by
  induction us with
  | nil => rfl
  | cons u us ih =>
    rw [List.length_cons, leB_div]
    have e : lev (u :: us) = u.toNat + 256 * lev us := by simp [lev]
    have hu := u.toNat_lt
    rw [e, show (u.toNat + 256 * lev us) / 256 = lev us by omega, ih]
    congr 1
    apply UInt8.toNat_inj.1
    rw [UInt8.toNat_ofNat']
    omega
theorem memPutN_same {xs : List UInt8} {a s : Nat} (hL : xs.length ≤ 8192) (h1 : 1 ≤ s) (h8 : s ≤ 8) (hi : a + s ≤ xs.length) : memPutN xs (a : Int) (s : Int) (memNum xs (a : Int) (s : Int)) = xs := by
  rw [memPutN_eq hL h1 h8 hi, memNum_eq hL h1 h8 hi]
  have hl : ((xs.drop a).take s).length = s := by simp; omega
  have e : leB (lev ((xs.drop a).take s)) s = (xs.drop a).take s := by
    have := leB_lev ((xs.drop a).take s)
    rwa [hl] at this
  rw [e, ← List.drop_drop, List.take_append_drop, List.take_append_drop]
theorem memPutN_mod {xs : List UInt8} {a s : Int} {x : Nat} (k : Nat) (hk : s = (k : Int)) : memPutN xs a s (x % 256 ^ k) = memPutN xs a s x := by
  unfold memPutN
  split
  · rename_i h
    obtain ⟨_, h2, h3⟩ := memSz_ok h
    have hcl : clamp s = k := by unfold clamp; rw [if_neg (by omega), if_neg (by omega)]; omega
    rw [hcl]
    congr 1
    unfold leB
    apply List.map_congr_left
    intro i hi
    rw [List.mem_range] at hi
    apply UInt8.toNat_inj.1
    rw [UInt8.toNat_ofNat', UInt8.toNat_ofNat']
    have e : 256 ^ k = 256 ^ i * 256 ^ (k - i) := by rw [← Nat.pow_add]; congr 1; omega
    rw [e, Nat.mod_mul_right_div_self, show (2:Nat)^8 = 256 from rfl]
    obtain ⟨j, hj⟩ : ∃ j, k - i = j + 1 := ⟨k - i - 1, by omega⟩
    rw [hj, Nat.pow_succ, Nat.mul_comm, Nat.mod_mul_right_mod]
  · rfl
theorem memNumZ_far {xs : List UInt8} {a s o t : Int} {x N : Nat} (hN : xs.length = N) (hL : N ≤ 8192) (hs : 1 ≤ s ∧ s ≤ 8) (ha : 0 ≤ a ∧ a + s ≤ N) (ht : 1 ≤ t ∧ t ≤ 8) (ho : 0 ≤ o ∧ o + t ≤ N) (hd : o + t ≤ a ∨ a + s ≤ o) : memNum (memPutN xs a s x) o t = memNum xs o t := by
  subst hN
  obtain ⟨a', rfl⟩ := Int.eq_ofNat_of_zero_le ha.1
  obtain ⟨o', rfl⟩ := Int.eq_ofNat_of_zero_le ho.1
  obtain ⟨s', rfl⟩ := Int.eq_ofNat_of_zero_le (show 0 ≤ s by omega)
  obtain ⟨t', rfl⟩ := Int.eq_ofNat_of_zero_le (show 0 ≤ t by omega)
  exact memNum_far hL (by omega) (by omega) (by omega) (by omega) (by omega) (by omega) (by omega)
theorem memNumZ_put {xs : List UInt8} {a s : Int} {x N : Nat} (hN : xs.length = N) (hL : N ≤ 8192) (hs : 1 ≤ s ∧ s ≤ 8) (ha : 0 ≤ a ∧ a + s ≤ N) (hx : x < 256 ^ s.toNat) : memNum (memPutN xs a s x) a s = x := by
  subst hN
  obtain ⟨a', rfl⟩ := Int.eq_ofNat_of_zero_le ha.1
  obtain ⟨s', rfl⟩ := Int.eq_ofNat_of_zero_le (show 0 ≤ s by omega)
  rw [memNum_put hL (by omega) (by omega) (by omega)]
  exact Nat.mod_eq_of_lt hx
theorem memPutNZ_same {xs : List UInt8} {a s : Int} {x N : Nat} (hN : xs.length = N) (hL : N ≤ 8192) (hs : 1 ≤ s ∧ s ≤ 8) (ha : 0 ≤ a ∧ a + s ≤ N) (hx : memNum xs a s = x) : memPutN xs a s x = xs := by
  subst hN hx
  obtain ⟨a', rfl⟩ := Int.eq_ofNat_of_zero_le ha.1
  obtain ⟨s', rfl⟩ := Int.eq_ofNat_of_zero_le (show 0 ≤ s by omega)
  exact memPutN_same hL (by omega) (by omega) (by omega)
theorem memPutNZ_get {xs : List UInt8} {a s : Int} {x N : Nat} (hN : xs.length = N) (hL : N ≤ 8192) (hs : 1 ≤ s ∧ s ≤ 8) (ha : 0 ≤ a ∧ a + s ≤ N) (i : Nat) (ho : (i : Int) < a ∨ a + s ≤ i) : (memPutN xs a s x)[i]? = xs[i]? := by
  subst hN
  obtain ⟨a', rfl⟩ := Int.eq_ofNat_of_zero_le ha.1
  obtain ⟨s', rfl⟩ := Int.eq_ofNat_of_zero_le (show 0 ≤ s by omega)
  exact memPutN_get hL (by omega) (by omega) (by omega) i (by omega)

/-! What a ring's numbers are behind a change -/
def Dsc.ok (d : Dsc) : Prop := d.a < 18446744073709551616 ∧ d.l < 4294967296 ∧ d.f < 65536 ∧ d.x < 65536
def rgSetD (xs : List UInt8) (p : Int) (d : Dsc) : List UInt8 := memPutN (memPutN (memPutN (memPutN xs p 8 d.a) (p + 8) 4 d.l) (p + 8 + 4) 2 d.f) (p + 8 + 4 + 2) 2 d.x
def rgOff (xs : List UInt8) (p q : Int) (x y : Nat) : List UInt8 := memPutN (memPutN xs p 2 x) q 2 y
def rgRet (xs : List UInt8) (p q : Int) (u v y : Nat) : List UInt8 := memPutN (memPutN (memPutN xs p 4 u) (p + 4) 4 v) q 2 y
theorem rgSetD_len (xs : List UInt8) (p : Int) (d : Dsc) : (rgSetD xs p d).length = xs.length := by unfold rgSetD; simp only [memPutN_len]
theorem rgOff_len (xs : List UInt8) (p q : Int) (x y : Nat) : (rgOff xs p q x y).length = xs.length := by unfold rgOff; simp only [memPutN_len]
theorem rgRet_len (xs : List UInt8) (p q : Int) (u v y : Nat) : (rgRet xs p q u v y).length = xs.length := by unfold rgRet; simp only [memPutN_len]
section
variable {xs : List UInt8} {N : Nat} {p q o t : Int}
theorem rgSetD_far {d : Dsc} (hN : xs.length = N) (hL : N ≤ 8192) (hp : 0 ≤ p ∧ p + 16 ≤ N) (ht : 1 ≤ t ∧ t ≤ 8) (ho : 0 ≤ o ∧ o + t ≤ N) (hd : o + t ≤ p ∨ p + 16 ≤ o) : memNum (rgSetD xs p d) o t = memNum xs o t := by
  unfold rgSetD
  repeat refine (memNumZ_far (N := N) (by first | exact hN | (simp only [memPutN_len]; exact hN)) hL (by omega) (by omega) (by omega) (by omega) (by omega)).trans ?_
  rfl
theorem rgOff_far {x y : Nat} (hN : xs.length = N) (hL : N ≤ 8192) (hp : 0 ≤ p ∧ p + 2 ≤ N) (hq : 0 ≤ q ∧ q + 2 ≤ N) (ht : 1 ≤ t ∧ t ≤ 8) (ho : 0 ≤ o ∧ o + t ≤ N) (hd : o + t ≤ p ∨ p + 2 ≤ o) (hd2 : o + t ≤ q ∨ q + 2 ≤ o) : memNum (rgOff xs p q x y) o t = memNum xs o t := by
  unfold rgOff
  repeat refine (memNumZ_far (N := N) (by first | exact hN | (simp only [memPutN_len]; exact hN)) hL (by omega) (by omega) (by omega) (by omega) (by omega)).trans ?_
  rfl
theorem rgRet_far {u v y : Nat} (hN : xs.length = N) (hL : N ≤ 8192) (hp : 0 ≤ p ∧ p + 8 ≤ N) (hq : 0 ≤ q ∧ q + 2 ≤ N) (ht : 1 ≤ t ∧ t ≤ 8) (ho : 0 ≤ o ∧ o + t ≤ N) (hd : o + t ≤ p ∨ p + 8 ≤ o) (hd2 : o + t ≤ q ∨ q + 2 ≤ o) : memNum (rgRet xs p q u v y) o t = memNum xs o t := by
  unfold rgRet
  repeat refine (memNumZ_far (N := N) (by first | exact hN | (simp only [memPutN_len]; exact hN)) hL (by omega) (by omega) (by omega) (by omega) (by omega)).trans ?_
  rfl
theorem rgOff_p {x y : Nat} (hN : xs.length = N) (hL : N ≤ 8192) (hp : 0 ≤ p ∧ p + 2 ≤ N) (hq : 0 ≤ q ∧ q + 2 ≤ N) (hx : x < 65536) (hd : p + 2 ≤ q ∨ q + 2 ≤ p) : memNum (rgOff xs p q x y) p 2 = x := by
  unfold rgOff
  refine (memNumZ_far (N := N) (by first | exact hN | (simp only [memPutN_len]; exact hN)) hL (by omega) (by omega) (by omega) (by omega) (by omega)).trans ?_
  exact memNumZ_put hN hL (by omega) (by omega) hx
theorem rgOff_q {x y : Nat} (hN : xs.length = N) (hL : N ≤ 8192) (hq : 0 ≤ q ∧ q + 2 ≤ N) (hy : y < 65536) : memNum (rgOff xs p q x y) q 2 = y := by
  unfold rgOff
  exact memNumZ_put (N := N) (by first | exact hN | (simp only [memPutN_len]; exact hN)) hL (by omega) (by omega) hy
theorem rgRet_p {u v y : Nat} (hN : xs.length = N) (hL : N ≤ 8192) (hp : 0 ≤ p ∧ p + 8 ≤ N) (hq : 0 ≤ q ∧ q + 2 ≤ N) (hu : u < 4294967296) (hd : p + 8 ≤ q ∨ q + 2 ≤ p) : memNum (rgRet xs p q u v y) p 4 = u := by
  unfold rgRet
  refine (memNumZ_far (N := N) (by first | exact hN | (simp only [memPutN_len]; exact hN)) hL (by omega) (by omega) (by omega) (by omega) (by omega)).trans ?_
  refine (memNumZ_far (N := N) (by first | exact hN | (simp only [memPutN_len]; exact hN)) hL (by omega) (by omega) (by omega) (by omega) (by omega)).trans ?_
  exact memNumZ_put hN hL (by omega) (by omega) hu
theorem rgRet_p4 {u v y : Nat} (hN : xs.length = N) (hL : N ≤ 8192) (hp : 0 ≤ p ∧ p + 8 ≤ N) (hq : 0 ≤ q ∧ q + 2 ≤ N) (hv : v < 4294967296) (hd : p + 8 ≤ q ∨ q + 2 ≤ p) : memNum (rgRet xs p q u v y) (p + 4) 4 = v := by
  unfold rgRet
  refine (memNumZ_far (N := N) (by first | exact hN | (simp only [memPutN_len]; exact hN)) hL (by omega) (by omega) (by omega) (by omega) (by omega)).trans ?_
  exact memNumZ_put (N := N) (by first | exact hN | (simp only [memPutN_len]; exact hN)) hL (by omega) (by omega) hv
theorem rgRet_q {u v y : Nat} (hN : xs.length = N) (hL : N ≤ 8192) (hq : 0 ≤ q ∧ q + 2 ≤ N) (hy : y < 65536) : memNum (rgRet xs p q u v y) q 2 = y := by
  unfold rgRet
  exact memNumZ_put (N := N) (by first | exact hN | (simp only [memPutN_len]; exact hN)) hL (by omega) (by omega) hy
theorem rgSetD_at {d : Dsc} (hN : xs.length = N) (hL : N ≤ 8192) (hp : 0 ≤ p ∧ p + 16 ≤ N) (hd : d.ok) : rgDscAt (rgSetD xs p d) p = d := by
  obtain ⟨h1, h2, h3, h4⟩ := hd
  unfold rgDscAt rgSetD
  congr 1
  · repeat refine (memNumZ_far (N := N) (by first | exact hN | (simp only [memPutN_len]; exact hN)) hL (by omega) (by omega) (by omega) (by omega) (by omega)).trans ?_
    exact memNumZ_put (N := N) (by first | exact hN | (simp only [memPutN_len]; exact hN)) hL (by omega) (by omega) h1
  · repeat refine (memNumZ_far (N := N) (by first | exact hN | (simp only [memPutN_len]; exact hN)) hL (by omega) (by omega) (by omega) (by omega) (by omega)).trans ?_
    exact memNumZ_put (N := N) (by first | exact hN | (simp only [memPutN_len]; exact hN)) hL (by omega) (by omega) h2
  · repeat refine (memNumZ_far (N := N) (by first | exact hN | (simp only [memPutN_len]; exact hN)) hL (by omega) (by omega) (by omega) (by omega) (by omega)).trans ?_
    exact memNumZ_put (N := N) (by first | exact hN | (simp only [memPutN_len]; exact hN)) hL (by omega) (by omega) h3
  · exact memNumZ_put (N := N) (by first | exact hN | (simp only [memPutN_len]; exact hN)) hL (by omega) (by omega) h4
theorem rgSetD_same {d : Dsc} (hN : xs.length = N) (hL : N ≤ 8192) (hp : 0 ≤ p ∧ p + 16 ≤ N) (hd : rgDscAt xs p = d) : rgSetD xs p d = xs := by
  subst hd
  unfold rgSetD rgDscAt
  dsimp only
  rw [memPutNZ_same hN hL (by omega) (by omega) rfl, memPutNZ_same hN hL (by omega) (by omega) rfl, memPutNZ_same hN hL (by omega) (by omega) rfl, memPutNZ_same hN hL (by omega) (by omega) rfl]
/-- A descriptor that lies elsewhere. -/
theorem rgDscAt_cong {ys : List UInt8} (h : ∀ o t : Int, 1 ≤ t ∧ t ≤ 8 → p ≤ o → o + t ≤ p + 16 → memNum ys o t = memNum xs o t) : rgDscAt ys p = rgDscAt xs p := by
  unfold rgDscAt
  rw [h p 8 (by omega) (by omega) (by omega), h (p + 8) 4 (by omega) (by omega) (by omega), h (p + 8 + 4) 2 (by omega) (by omega) (by omega), h (p + 8 + 4 + 2) 2 (by omega) (by omega) (by omega)]
theorem rgSetD_get {d : Dsc} (hN : xs.length = N) (hL : N ≤ 8192) (hp : 0 ≤ p ∧ p + 16 ≤ N) (i : Nat) (hi : (i : Int) < p ∨ p + 16 ≤ i) : (rgSetD xs p d)[i]? = xs[i]? := by
  unfold rgSetD
  repeat refine (memPutNZ_get (N := N) (by first | exact hN | (simp only [memPutN_len]; exact hN)) hL (by omega) (by omega) i (by omega)).trans ?_
  rfl
theorem rgOff_get {x y : Nat} (hN : xs.length = N) (hL : N ≤ 8192) (hp : 0 ≤ p ∧ p + 2 ≤ N) (hq : 0 ≤ q ∧ q + 2 ≤ N) (i : Nat) (hi : (i : Int) < p ∨ p + 2 ≤ i) (hi2 : (i : Int) < q ∨ q + 2 ≤ i) : (rgOff xs p q x y)[i]? = xs[i]? := by
  unfold rgOff
  repeat refine (memPutNZ_get (N := N) (by first | exact hN | (simp only [memPutN_len]; exact hN)) hL (by omega) (by omega) i (by omega)).trans ?_
  rfl
theorem rgRet_get {u v y : Nat} (hN : xs.length = N) (hL : N ≤ 8192) (hp : 0 ≤ p ∧ p + 8 ≤ N) (hq : 0 ≤ q ∧ q + 2 ≤ N) (i : Nat) (hi : (i : Int) < p ∨ p + 8 ≤ i) (hi2 : (i : Int) < q ∨ q + 2 ≤ i) : (rgRet xs p q u v y)[i]? = xs[i]? := by
  unfold rgRet
  repeat refine (memPutNZ_get (N := N) (by first | exact hN | (simp only [memPutN_len]; exact hN)) hL (by omega) (by omega) i (by omega)).trans ?_
  rfl
end
/-- What a ring becomes. -/
def rgSetDesc (xs : List UInt8) (b k i : Int) (d : Dsc) : List UInt8 := if rgDescE xs.length b k i = 0 then rgSetD xs (b + 16 * i) d else xs
def rgOffer (xs : List UInt8) (b k : Int) (i x : Nat) : List UInt8 := if rgCheck xs.length b k = true then rgOff xs (b + (16 * k + rgPlace k i 2)) (b + (16 * k + 2)) x ((i + 1) % 65536) else xs
def rgReturn (xs : List UInt8) (b k : Int) (i u v : Nat) : List UInt8 := if rgCheck xs.length b k = true then rgRet xs (b + (rgBack k + rgPlace k i 8)) (b + (rgBack k + 2)) u v ((i + 1) % 65536) else xs
theorem rgSetDesc_len (xs : List UInt8) (b k i : Int) (d : Dsc) : (rgSetDesc xs b k i d).length = xs.length := by unfold rgSetDesc; split <;> simp [rgSetD_len]
theorem rgOffer_len (xs : List UInt8) (b k : Int) (i x : Nat) : (rgOffer xs b k i x).length = xs.length := by unfold rgOffer; split <;> simp [rgOff_len]
theorem rgReturn_len (xs : List UInt8) (b k : Int) (i u v : Nat) : (rgReturn xs b k i u v).length = xs.length := by unfold rgReturn; split <;> simp [rgRet_len]
theorem rgCheck_ok {N : Nat} {b k : Int} (h : rgCheck N b k = true) : N ≤ 8192 ∧ rgN k ∧ 0 ≤ b ∧ b + (rgBack k + 4 + 8 * k) ≤ N ∧ 1 ≤ k ∧ k ≤ 16 ∧ 16 * k + 4 + 2 * k ≤ rgBack k := by
  obtain ⟨h1, h2, h3, h4⟩ := of_decide_eq_true h
  unfold rgSize at h4
  rw [if_pos h2] at h4
  refine ⟨h1, h2, h3, h4, ?_, ?_, ?_⟩
  · unfold rgN at h2; omega
  · unfold rgN at h2; omega
  · unfold rgBack; omega
theorem rgPlace_at {k : Int} (hk : 1 ≤ k) (i : Nat) : ∃ r : Int, (0 ≤ r ∧ r < k) ∧ r = ((i % k.toNat : Nat) : Int) ∧ rgPlace k i 2 = 4 + 2 * r ∧ rgPlace k i 8 = 4 + 8 * r := by
  have := Nat.mod_lt i (show 0 < k.toNat by omega)
  exact ⟨((i % k.toNat : Nat) : Int), ⟨by omega, by omega⟩, rfl, rfl, rfl⟩
section
variable {xs : List UInt8} {N : Nat} {b k : Int}
theorem rgOffer_idx (h : rgCheck xs.length b k = true) (i x : Nat) : rgAvail (rgOffer xs b k i x) b k = (i + 1) % 65536 := by
  obtain ⟨h1, h2, h3, h4, h5, h6, h7⟩ := rgCheck_ok h
  obtain ⟨r, hr, _, e2, e8⟩ := rgPlace_at h5 i
  unfold rgAvail rgIdx
  rw [rgOffer_len, if_pos h]
  unfold rgOffer
  rw [if_pos h, e2]
  exact rgOff_q rfl h1 (by omega) (by omega)
theorem rgOffer_at (h : rgCheck xs.length b k = true) (i j x : Nat) (hx : x < 65536) (hj : j % k.toNat = i % k.toNat) : rgAt (rgOffer xs b k i x) b k j = x := by
  obtain ⟨h1, h2, h3, h4, h5, h6, h7⟩ := rgCheck_ok h
  have hp : rgPlace k j 2 = rgPlace k i 2 := by unfold rgPlace; rw [hj]
  obtain ⟨r, hr, _, e2, e8⟩ := rgPlace_at h5 i
  unfold rgAt
  rw [rgOffer_len, if_pos h, hp]
  unfold rgOffer
  rw [if_pos h, e2]
  exact rgOff_p rfl h1 (by omega) (by omega) hx (by omega)
theorem rgOffer_desc (i x : Nat) (j : Int) : rgDesc (rgOffer xs b k i x) b k j = rgDesc xs b k j := by
  unfold rgDesc
  rw [rgOffer_len]
  split
  · rename_i h0
    unfold rgOffer
    split
    · rename_i h
      have hj : 0 ≤ j ∧ j < k := by unfold rgDescE at h0; rw [if_pos h] at h0; split at h0 <;> first | assumption | cases h0
      obtain ⟨h1, h2, h3, h4, h5, h6, h7⟩ := rgCheck_ok h
      obtain ⟨r, hr, _, e2, e8⟩ := rgPlace_at h5 i
      rw [e2]
      exact rgDscAt_cong fun o t ht ho1 ho2 => rgOff_far rfl h1 (by omega) (by omega) ht (by omega) (by omega) (by omega)
    · rfl
  · rfl
theorem rgOffer_used (i x j : Nat) : rgUId (rgOffer xs b k i x) b k j = rgUId xs b k j ∧ rgULen (rgOffer xs b k i x) b k j = rgULen xs b k j := by
  unfold rgUId rgULen
  rw [rgOffer_len]
  split
  · rename_i h
    unfold rgOffer
    rw [if_pos h]
    obtain ⟨h1, h2, h3, h4, h5, h6, h7⟩ := rgCheck_ok h
    obtain ⟨r, hr, _, e2, e8⟩ := rgPlace_at h5 i
    obtain ⟨r', hr', _, f2, f8⟩ := rgPlace_at h5 j
    rw [e2, f8]
    exact ⟨rgOff_far rfl h1 (by omega) (by omega) (by omega) (by omega) (by omega) (by omega), rgOff_far rfl h1 (by omega) (by omega) (by omega) (by omega) (by omega) (by omega)⟩
  · exact ⟨rfl, rfl⟩
theorem rgReturn_idx (h : rgCheck xs.length b k = true) (i u v : Nat) : rgUsed (rgReturn xs b k i u v) b k = (i + 1) % 65536 := by
  obtain ⟨h1, h2, h3, h4, h5, h6, h7⟩ := rgCheck_ok h
  obtain ⟨r, hr, _, e2, e8⟩ := rgPlace_at h5 i
  unfold rgUsed rgIdx
  rw [rgReturn_len, if_pos h]
  unfold rgReturn
  rw [if_pos h, e8]
  exact rgRet_q rfl h1 (by omega) (by omega)
theorem rgReturn_used (h : rgCheck xs.length b k = true) (i j u v : Nat) (hu : u < 4294967296) (hv : v < 4294967296) (hj : j % k.toNat = i % k.toNat) : rgUId (rgReturn xs b k i u v) b k j = u ∧ rgULen (rgReturn xs b k i u v) b k j = v := by
  obtain ⟨h1, h2, h3, h4, h5, h6, h7⟩ := rgCheck_ok h
  have hp : rgPlace k j 8 = rgPlace k i 8 := by unfold rgPlace; rw [hj]
  obtain ⟨r, hr, _, e2, e8⟩ := rgPlace_at h5 i
  unfold rgUId rgULen
  rw [rgReturn_len, if_pos h, if_pos h, hp]
  unfold rgReturn
  rw [if_pos h, e8]
  exact ⟨rgRet_p rfl h1 (by omega) (by omega) hu (by omega), rgRet_p4 rfl h1 (by omega) (by omega) hv (by omega)⟩
theorem rgReturn_off (i j u v : Nat) (hj : j % k.toNat ≠ i % k.toNat) : rgUId (rgReturn xs b k i u v) b k j = rgUId xs b k j ∧ rgULen (rgReturn xs b k i u v) b k j = rgULen xs b k j := by
  unfold rgUId rgULen
  rw [rgReturn_len]
  split
  · rename_i h
    unfold rgReturn
    rw [if_pos h]
    obtain ⟨h1, h2, h3, h4, h5, h6, h7⟩ := rgCheck_ok h
    obtain ⟨r, hr, g, e2, e8⟩ := rgPlace_at h5 i
    obtain ⟨r', hr', g', f2, f8⟩ := rgPlace_at h5 j
    have hne : r ≠ r' := by omega
    rw [e8, f8]
    exact ⟨rgRet_far rfl h1 (by omega) (by omega) (by omega) (by omega) (by omega) (by omega), rgRet_far rfl h1 (by omega) (by omega) (by omega) (by omega) (by omega) (by omega)⟩
  · exact ⟨rfl, rfl⟩
theorem rgReturn_desc (i u v : Nat) (j : Int) : rgDesc (rgReturn xs b k i u v) b k j = rgDesc xs b k j := by
  unfold rgDesc
  rw [rgReturn_len]
  split
  · rename_i h0
    unfold rgReturn
    split
    · rename_i h
      have hj : 0 ≤ j ∧ j < k := by unfold rgDescE at h0; rw [if_pos h] at h0; split at h0 <;> first | assumption | cases h0
      obtain ⟨h1, h2, h3, h4, h5, h6, h7⟩ := rgCheck_ok h
      obtain ⟨r, hr, _, e2, e8⟩ := rgPlace_at h5 i
      rw [e8]
      exact rgDscAt_cong fun o t ht ho1 ho2 => rgRet_far rfl h1 (by omega) (by omega) ht (by omega) (by omega) (by omega)
    · rfl
  · rfl
theorem rgReturn_avail (i u v : Nat) : rgAvail (rgReturn xs b k i u v) b k = rgAvail xs b k := by
  unfold rgAvail rgIdx
  rw [rgReturn_len]
  split
  · rename_i h
    unfold rgReturn
    rw [if_pos h]
    obtain ⟨h1, h2, h3, h4, h5, h6, h7⟩ := rgCheck_ok h
    obtain ⟨r, hr, _, e2, e8⟩ := rgPlace_at h5 i
    rw [e8]
    exact rgRet_far rfl h1 (by omega) (by omega) (by omega) (by omega) (by omega) (by omega)
  · rfl
theorem rgReturn_at (i u v j : Nat) : rgAt (rgReturn xs b k i u v) b k j = rgAt xs b k j := by
  unfold rgAt
  rw [rgReturn_len]
  split
  · rename_i h
    unfold rgReturn
    rw [if_pos h]
    obtain ⟨h1, h2, h3, h4, h5, h6, h7⟩ := rgCheck_ok h
    obtain ⟨r, hr, _, e2, e8⟩ := rgPlace_at h5 i
    obtain ⟨r', hr', _, f2, f8⟩ := rgPlace_at h5 j
    rw [e8, f2]
    exact rgRet_far rfl h1 (by omega) (by omega) (by omega) (by omega) (by omega) (by omega)
  · rfl
theorem rgSetDesc_at (h : rgCheck xs.length b k = true) (i : Int) (hi : 0 ≤ i ∧ i < k) (d : Dsc) (hd : d.ok) : rgDesc (rgSetDesc xs b k i d) b k i = d := by
  obtain ⟨h1, h2, h3, h4, h5, h6, h7⟩ := rgCheck_ok h
  have hE : rgDescE xs.length b k i = 0 := by unfold rgDescE; rw [if_pos h, if_pos hi]
  unfold rgDesc
  rw [rgSetDesc_len, if_pos hE]
  unfold rgSetDesc
  rw [if_pos hE]
  exact rgSetD_at rfl h1 (by omega) hd
theorem rgSetDesc_off (i j : Int) (hj : j ≠ i) (d : Dsc) : rgDesc (rgSetDesc xs b k i d) b k j = rgDesc xs b k j := by
  unfold rgDesc
  rw [rgSetDesc_len]
  split
  · rename_i h0
    unfold rgSetDesc
    split
    · rename_i h9
      by_cases h : rgCheck xs.length b k = true
      · unfold rgDescE at h0 h9
        rw [if_pos h] at h0 h9
        have hj1 : 0 ≤ j ∧ j < k := by split at h0 <;> first | assumption | cases h0
        have hi1 : 0 ≤ i ∧ i < k := by split at h9 <;> first | assumption | cases h9
        obtain ⟨h1, h2, h3, h4, h5, h6, h7⟩ := rgCheck_ok h
        exact rgDscAt_cong fun o t ht ho1 ho2 => rgSetD_far rfl h1 (by omega) ht (by omega) (by omega)
      · unfold rgDescE at h0; rw [if_neg h] at h0; cases h0
    · rfl
  · rfl
theorem rgSetDesc_used (i : Int) (d : Dsc) (j : Nat) : rgUId (rgSetDesc xs b k i d) b k j = rgUId xs b k j ∧ rgULen (rgSetDesc xs b k i d) b k j = rgULen xs b k j := by
  unfold rgUId rgULen
  rw [rgSetDesc_len]
  split
  · rename_i h
    unfold rgSetDesc
    split
    · rename_i h9
      unfold rgDescE at h9
      rw [if_pos h] at h9
      have hi1 : 0 ≤ i ∧ i < k := by split at h9 <;> first | assumption | cases h9
      obtain ⟨h1, h2, h3, h4, h5, h6, h7⟩ := rgCheck_ok h
      obtain ⟨r', hr', _, f2, f8⟩ := rgPlace_at h5 j
      rw [f8]
      exact ⟨rgSetD_far rfl h1 (by omega) (by omega) (by omega) (by omega), rgSetD_far rfl h1 (by omega) (by omega) (by omega) (by omega)⟩
    · exact ⟨rfl, rfl⟩
  · exact ⟨rfl, rfl⟩
/-- Nothing beside the ring is another one. -/
def RgIn (xs ys : List UInt8) (b k : Int) : Prop := ys.length = xs.length ∧ ∀ i : Nat, (i : Int) < b ∨ b + rgSize k ≤ i → ys[i]? = xs[i]?
theorem RgIn.trans {xs ys zs : List UInt8} (h1 : RgIn xs ys b k) (h2 : RgIn ys zs b k) : RgIn xs zs b k := ⟨h2.1.trans h1.1, fun i hi => (h2.2 i hi).trans (h1.2 i hi)⟩
theorem rgSetDesc_in (i : Int) (d : Dsc) : RgIn xs (rgSetDesc xs b k i d) b k := by
  refine ⟨rgSetDesc_len .., fun j hj => ?_⟩
  unfold rgSetDesc
  split
  · rename_i h9
    by_cases h : rgCheck xs.length b k = true
    · unfold rgDescE at h9
      rw [if_pos h] at h9
      have hi1 : 0 ≤ i ∧ i < k := by split at h9 <;> first | assumption | cases h9
      obtain ⟨h1, h2, h3, h4, h5, h6, h7⟩ := rgCheck_ok h
      unfold rgSize at hj
      rw [if_pos h2] at hj
      exact rgSetD_get rfl h1 (by omega) j (by omega)
    · unfold rgDescE at h9; rw [if_neg h] at h9; cases h9
  · rfl
theorem rgOffer_in (i x : Nat) : RgIn xs (rgOffer xs b k i x) b k := by
  refine ⟨rgOffer_len .., fun j hj => ?_⟩
  unfold rgOffer
  split
  · rename_i h
    obtain ⟨h1, h2, h3, h4, h5, h6, h7⟩ := rgCheck_ok h
    obtain ⟨r, hr, _, e2, e8⟩ := rgPlace_at h5 i
    rw [e2]
    unfold rgSize at hj
    rw [if_pos h2] at hj
    exact rgOff_get rfl h1 (by omega) (by omega) j (by omega) (by omega)
  · rfl
theorem rgReturn_in (i u v : Nat) : RgIn xs (rgReturn xs b k i u v) b k := by
  refine ⟨rgReturn_len .., fun j hj => ?_⟩
  unfold rgReturn
  split
  · rename_i h
    obtain ⟨h1, h2, h3, h4, h5, h6, h7⟩ := rgCheck_ok h
    obtain ⟨r, hr, _, e2, e8⟩ := rgPlace_at h5 i
    rw [e8]
    unfold rgSize at hj
    rw [if_pos h2] at hj
    exact rgRet_get rfl h1 (by omega) (by omega) j (by omega) (by omega)
  · rfl
theorem RgIn.take {xs ys : List UInt8} (h : RgIn xs ys b k) : ys.take b.toNat = xs.take b.toNat := by
  apply List.ext_getElem?
  intro i
  rw [List.getElem?_take, List.getElem?_take]
  split
  · exact h.2 i (by omega)
  · rfl
theorem RgIn.drop {xs ys : List UInt8} (h : RgIn xs ys b k) : ys.drop (b + rgSize k).toNat = xs.drop (b + rgSize k).toNat := by
  apply List.ext_getElem?
  intro i
  rw [List.getElem?_drop, List.getElem?_drop]
  exact h.2 _ (by omega)
end
theorem rgN_dvd {k : Int} (h : rgN k) : (65536 % k.toNat = 0) ∧ 1 ≤ k.toNat ∧ k.toNat ≤ 16 := by rcases h with rfl | rfl | rfl | rfl | rfl <;> decide
theorem rgN_up {k : Int} (h : rgN k) (i : Nat) : ((i + k.toNat) % 65536) % k.toNat = i % k.toNat := by
  rcases h with rfl | rfl | rfl | rfl | rfl <;> simp <;> omega
theorem rgN_down {k : Int} (h : rgN k) (i : Nat) (hi : i < 65536) : ((i + 65536 - k.toNat) % 65536) % k.toNat = i % k.toNat := by
  rcases h with rfl | rfl | rfl | rfl | rfl <;> simp <;> omega
end Go.Proofs.Ytnfepikgbdeomaa
