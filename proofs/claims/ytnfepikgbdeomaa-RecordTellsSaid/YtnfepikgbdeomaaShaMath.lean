/-
  Plain: SHA-256.
-/
import Derived.Test.YtnfepikgbdeomaaCrcMath
import Derived.Test.YtnfepikgbdeomaaNumMath
namespace Go.Proofs.Ytnfepikgbdeomaa
set_option maxRecDepth 20000
set_option linter.unusedSimpArgs false
set_option linter.unusedVariables false

structure H8 where
  a : Nat
  b : Nat
  c : Nat
  d : Nat
  e : Nat
  f : Nat
  g : Nat
  h : Nat
deriving DecidableEq
def H8.ok (x : H8) : Prop := x.a < 4294967296 ∧ x.b < 4294967296 ∧ x.c < 4294967296 ∧ x.d < 4294967296 ∧ x.e < 4294967296 ∧ x.f < 4294967296 ∧ x.g < 4294967296 ∧ x.h < 4294967296
def H8.l (x : H8) : List Nat := [x.a, x.b, x.c, x.d, x.e, x.f, x.g, x.h]
def ror (x n : Nat) : Nat := x / 2 ^ n ||| (x * 2 ^ (32 - n)) % 4294967296
def shMix (x : Nat) (ts : List Nat) : Nat := ts.foldl (fun o n => o ^^^ ror x n) 0
def shCh (e f g : Nat) : Nat := g ^^^ (e &&& (f ^^^ g))
def shMaj (a b c : Nat) : Nat := (a &&& b) ||| (c &&& (a ||| b))
def shK : List Nat := [1116352408, 1899447441, 3049323471, 3921009573, 961987163, 1508970993, 2453635748, 2870763221, 3624381080, 310598401, 607225278, 1426881987, 1925078388, 2162078206, 2614888103, 3248222580, 3835390401, 4022224774, 264347078, 604807628, 770255983, 1249150122, 1555081692, 1996064986, 2554220882, 2821834349, 2952996808, 3210313671, 3336571891, 3584528711, 113926993, 338241895, 666307205, 773529912, 1294757372, 1396182291, 1695183700, 1986661051, 2177026350, 2456956037, 2730485921, 2820302411, 3259730800, 3345764771, 3516065817, 3600352804, 4094571909, 275423344, 430227734, 506948616, 659060556, 883997877, 958139571, 1322822218, 1537002063, 1747873779, 1955562222, 2024104815, 2227730452, 2361852424, 2428436474, 2756734187, 3204031479, 3329325298]
def shT (x : H8) (k w : Nat) : Nat := (x.h + shMix x.e [6, 11, 25] + shCh x.e x.f x.g + k + w) % 4294967296
def shU (x : H8) : Nat := (shMix x.a [2, 13, 22] + shMaj x.a x.b x.c) % 4294967296
def shStep (k w : Nat) (x : H8) : H8 := ⟨(shT x k w + shU x) % 4294967296, x.a, x.b, x.c, (x.d + shT x k w) % 4294967296, x.e, x.f, x.g⟩
def shSig (ws : List Nat) (i : Nat) : Nat :=
  ((shMix (ws.getD (i - 2) 0) [17, 19] ^^^ ws.getD (i - 2) 0 / 1024) + (ws.getD (i - 7) 0 + ws.getD (i - 16) 0 + (shMix (ws.getD (i - 15) 0) [7, 18] ^^^ ws.getD (i - 15) 0 / 8))) % 4294967296
def shWord (b : List UInt8) (ws : List Nat) (i : Nat) : Nat := if i < 16 then bev ((b.drop (4 * i)).take 4) else shSig ws i
def shWs (b : List UInt8) : Nat → List Nat
  | 0 => []
  | k + 1 => shWs b k ++ [shWord b (shWs b k) k]
def shRounds (ws : List Nat) (x : H8) : Nat → H8
  | 0 => x
  | k + 1 => shStep (shK.getD k 0) (ws.getD k 0) (shRounds ws x k)
def H8.add (x y : H8) : H8 := ⟨(x.a + y.a) % 4294967296, (x.b + y.b) % 4294967296, (x.c + y.c) % 4294967296, (x.d + y.d) % 4294967296, (x.e + y.e) % 4294967296, (x.f + y.f) % 4294967296, (x.g + y.g) % 4294967296, (x.h + y.h) % 4294967296⟩
def shWords (b : List UInt8) : List Nat := if b.length = 64 then shWs b 64 else List.replicate 64 0
def shTurn (x : H8) (b : List UInt8) : H8 := if b.length = 64 then x.add (shRounds (shWs b 64) x 64) else x
def shPad (n : Nat) : List UInt8 := 128 :: (List.replicate ((119 - n % 64) % 64) 0 ++ beB (8 * n) 8)
def shBegin : H8 := ⟨1779033703, 3144134277, 1013904242, 2773480762, 1359893119, 2600822924, 528734635, 1541459225⟩
def shFold (x : H8) (b : List UInt8) : Nat → H8
  | 0 => x
  | k + 1 => shTurn (shFold x b k) ((b.drop (64 * k)).take 64)
def shDig (x : H8) : List UInt8 := x.l.flatMap fun n => beB n 4
def shAll (b : List UInt8) : List UInt8 := b ++ shPad b.length
def shOf (b : List UInt8) : List UInt8 := shDig (shFold shBegin (shAll b) ((shAll b).length / 64))
def shLink (d b : List UInt8) : List UInt8 := shOf (d ++ b)

theorem xor_lt32 {a b : Nat} (ha : a < 4294967296) (hb : b < 4294967296) : a ^^^ b < 4294967296 := Nat.xor_lt_two_pow (n := 32) (by omega) (by omega)
theorem or_lt32 {a b : Nat} (ha : a < 4294967296) (hb : b < 4294967296) : a ||| b < 4294967296 := Nat.or_lt_two_pow (n := 32) (by omega) (by omega)
theorem and_lt32 {a b : Nat} (ha : a < 4294967296) : a &&& b < 4294967296 := Nat.lt_of_le_of_lt Nat.and_le_left ha
theorem ror_lt {x : Nat} (n : Nat) (h : x < 4294967296) : ror x n < 4294967296 := or_lt32 (Nat.lt_of_le_of_lt (Nat.div_le_self _ _) h) (Nat.mod_lt _ (by omega))
theorem shMix_snoc (x : Nat) (ts : List Nat) (n : Nat) : shMix x (ts ++ [n]) = shMix x ts ^^^ ror x n := by simp [shMix]
theorem shMix_lt {x : Nat} (h : x < 4294967296) (ts : List Nat) : shMix x ts < 4294967296 := by
  unfold shMix
  suffices ∀ (ts : List Nat) (o : Nat), o < 4294967296 → ts.foldl (fun o n => o ^^^ ror x n) o < 4294967296 from this ts 0 (by omega)
  intro ts
  induction ts with
  | nil => intro o ho; exact ho
  | cons t ts ih => intro o ho; exact ih _ (xor_lt32 ho (ror_lt t h))
theorem shMix2 (x a b : Nat) : shMix x [a, b] = ror x a ^^^ ror x b := by simp [shMix]
theorem shMix3 (x a b c : Nat) : shMix x [a, b, c] = ror x a ^^^ ror x b ^^^ ror x c := by simp [shMix]
theorem not_bit {e : Nat} (h : e < 4294967296) (i : Nat) : (4294967295 - e).testBit i = (decide (i < 32) && !e.testBit i) := by
  have := Nat.testBit_two_pow_sub_succ (x := e) (n := 32) (by omega) i
  rw [← this]; congr 1; omega
theorem bit_high {g : Nat} (h : g < 4294967296) {i : Nat} (hi : 32 ≤ i) : g.testBit i = false := Nat.testBit_lt_two_pow (Nat.lt_of_lt_of_le h (Nat.pow_le_pow_right (by omega) hi : 2 ^ 32 ≤ 2 ^ i))
theorem ch_ref {e f g : Nat} (he : e < 4294967296) (hg : g < 4294967296) : (e &&& f) ^^^ ((4294967295 - e) &&& g) = shCh e f g := by
  unfold shCh
  apply Nat.eq_of_testBit_eq
  intro i
  simp only [Nat.testBit_xor, Nat.testBit_and, not_bit he]
  by_cases hi : i < 32
  · simp only [hi, decide_true, Bool.true_and]
    cases e.testBit i <;> cases f.testBit i <;> cases g.testBit i <;> rfl
  · rw [bit_high he (by omega), bit_high hg (by omega)]
    simp [hi]
theorem maj_ref (a b c : Nat) : (a &&& b) ^^^ (a &&& c) ^^^ (b &&& c) = shMaj a b c := by
  unfold shMaj
  apply Nat.eq_of_testBit_eq
  intro i
  simp only [Nat.testBit_xor, Nat.testBit_and, Nat.testBit_or]
  cases a.testBit i <;> cases b.testBit i <;> cases c.testBit i <;> rfl
theorem shCh_lt {e f g : Nat} (he : e < 4294967296) (hg : g < 4294967296) : shCh e f g < 4294967296 := xor_lt32 hg (and_lt32 he)
theorem shMaj_lt {a b c : Nat} (ha : a < 4294967296) (hc : c < 4294967296) : shMaj a b c < 4294967296 := or_lt32 (and_lt32 ha) (and_lt32 hc)
theorem shStep_ok {k w : Nat} {x : H8} (h : x.ok) : (shStep k w x).ok := by
  obtain ⟨h1, h2, h3, h4, h5, h6, h7, h8⟩ := h
  exact ⟨Nat.mod_lt _ (by omega), h1, h2, h3, Nat.mod_lt _ (by omega), h5, h6, h7⟩
theorem shRounds_ok (ws : List Nat) {x : H8} (h : x.ok) : ∀ k, (shRounds ws x k).ok
  | 0 => h
  | k + 1 => shStep_ok (shRounds_ok ws h k)
theorem add_ok (x y : H8) : (x.add y).ok := by refine ⟨?_, ?_, ?_, ?_, ?_, ?_, ?_, ?_⟩ <;> exact Nat.mod_lt _ (by omega)
theorem shTurn_ok {x : H8} (h : x.ok) (b : List UInt8) : (shTurn x b).ok := by
  unfold shTurn; split
  · exact add_ok _ _
  · exact h
theorem shBegin_ok : shBegin.ok := by unfold H8.ok shBegin; decide
theorem shFold_ok {x : H8} (h : x.ok) (b : List UInt8) : ∀ k, (shFold x b k).ok
  | 0 => h
  | k + 1 => shTurn_ok (shFold_ok h b k) _
theorem shSig_lt (ws : List Nat) (i : Nat) : shSig ws i < 4294967296 := Nat.mod_lt _ (by omega)
theorem bev4_lt (b : List UInt8) : bev (b.take 4) < 4294967296 := by
  have h := bev_lt (b.take 4)
  have h2 : (b.take 4).length ≤ 4 := by rw [List.length_take]; omega
  exact Nat.lt_of_lt_of_le h (Nat.pow_le_pow_right (by omega) h2)
theorem shWord_lt (b : List UInt8) (ws : List Nat) (i : Nat) : shWord b ws i < 4294967296 := by
  unfold shWord; split
  · exact bev4_lt _
  · exact shSig_lt _ _
theorem shWs_len (b : List UInt8) : ∀ k, (shWs b k).length = k
  | 0 => rfl
  | k + 1 => by simp [shWs, shWs_len b k]
theorem shWs_lt (b : List UInt8) : ∀ k, ∀ n ∈ shWs b k, n < 4294967296
  | 0 => by simp [shWs]
  | k + 1 => by
    intro n hn
    rw [shWs, List.mem_append] at hn
    rcases hn with hn | hn
    · exact shWs_lt b k n hn
    · obtain rfl : n = _ := by simpa using hn
      exact shWord_lt _ _ _
theorem shWords_len (b : List UInt8) : (shWords b).length = 64 := by
  unfold shWords; split
  · exact shWs_len b 64
  · simp
theorem shWords_lt (b : List UInt8) : ∀ n ∈ shWords b, n < 4294967296 := by
  unfold shWords; split
  · exact shWs_lt b 64
  · intro n hn; have := List.eq_of_mem_replicate hn; omega
theorem shDig_len (x : H8) : (shDig x).length = 32 := by simp [shDig, H8.l, beB_length]
theorem shOf_len (b : List UInt8) : (shOf b).length = 32 := shDig_len _
theorem shLink_len (d b : List UInt8) : (shLink d b).length = 32 := shOf_len _
theorem shPad_len (n : Nat) : (shPad n).length = 9 + (119 - n % 64) % 64 := by simp [shPad, beB_length]; omega
theorem shAll_len (b : List UInt8) : (shAll b).length = 64 * ((b.length + 72) / 64) := by
  unfold shAll; rw [List.length_append, shPad_len]; omega
/-- The text's own: two known digests begin so. -/
theorem sha_abc : (shOf [97, 98, 99]).take 4 = [186, 120, 22, 191] := by decide +kernel
theorem sha_nil : (shOf []).take 4 = [227, 176, 196, 66] := by decide +kernel
end Go.Proofs.Ytnfepikgbdeomaa
