/-
  Plain: a packet that is put is got; a head of which a byte is another one is none.
-/
import Derived.Test.YtieilgphcfiapaaIpK
namespace Go.Proofs.Ytieilgphcfiapaa
set_option maxRecDepth 20000

theorem bev2 (k : Nat) (hk : k < 65536) : bev [UInt8.ofNat (k / 256), UInt8.ofNat k] = k := by
  simp [bev]; omega
theorem bev4 (k : Nat) (hk : k < 4294967296) : bev [UInt8.ofNat (k / 16777216), UInt8.ofNat (k / 65536), UInt8.ofNat (k / 256), UInt8.ofNat k] = k := by
  simp [bev]; omega
theorem bev1 (k : Nat) (hk : k < 256) : bev [UInt8.ofNat k] = k := by
  simp [bev]; omega
theorem ipS_list (len id pl proto src dst : Nat) : ∃ s1 s2, ipS len id pl proto src dst = [69, 0, UInt8.ofNat (len / 256), UInt8.ofNat len, UInt8.ofNat (id / 256), UInt8.ofNat id, UInt8.ofNat (pl / 256), UInt8.ofNat pl, 64, UInt8.ofNat proto, s1, s2, UInt8.ofNat (src / 16777216), UInt8.ofNat (src / 65536), UInt8.ofNat (src / 256), UInt8.ofNat src, UInt8.ofNat (dst / 16777216), UInt8.ofNat (dst / 65536), UInt8.ofNat (dst / 256), UInt8.ofNat dst] := by
  refine ⟨UInt8.ofNat (numCheck (ipH len id pl proto src dst) / 256), UInt8.ofNat (numCheck (ipH len id pl proto src dst)), ?_⟩
  unfold ipS ipA ipZ
  simp only [beB_one, beB_two, beB_four]
  rfl
/-- What is put is got, whatever stands behind it. -/
theorem pk_back (id : Nat) (more : Bool) (place proto : Int) (src dst : Nat) (xs rest : List UInt8) (hid : id < 65536) (hsrc : src < 4294967296) (hdst : dst < 4294967296) (hc : ipCheck place proto xs.length = true) :
    ipGetE (ipPutL id more place proto src dst xs ++ rest) = 0 ∧ ipGet (ipPutL id more place proto src dst xs ++ rest) = ⟨id, more, place, proto, src, dst, xs⟩ ∧ (ipPutL id more place proto src dst xs).length = 20 + xs.length ∧ ipPutE place proto xs = 0 := by
  obtain ⟨g1, g2, g3, g4, g5, g6⟩ := (ipCheck_iff _ _ _).1 hc
  have e1 : ipPutL id more place proto src dst xs = ipS (20 + xs.length) id (ipPl place more) proto.toNat src dst ++ xs := by unfold ipPutL; rw [if_pos hc]
  have e2 : ipPutE place proto xs = 0 := by unfold ipPutE; rw [if_pos hc]
  obtain ⟨q, rfl⟩ : ∃ q : Nat, place = ((8 * q : Nat) : Int) := ⟨(place / 8).toNat, by omega⟩
  obtain ⟨r, rfl⟩ : ∃ r : Nat, proto = (r : Nat) := ⟨proto.toNat, by omega⟩
  obtain ⟨pl, hpl, hpl2⟩ : ∃ pl, ipPl ((8 * q : Nat) : Int) more = pl ∧ pl = q + (if more = true then 8192 else 0) := ⟨_, rfl, by unfold ipPl; congr 1; omega⟩
  have hplb : pl < 16384 := by rw [hpl2]; split <;> omega
  rw [e1, hpl, Int.toNat_natCast]
  have hl := ipS_length (20 + xs.length) id pl r src dst
  have hck := ipS_check (20 + xs.length) id pl r src dst
  have ht : (ipS (20 + xs.length) id pl r src dst ++ xs ++ rest).take 20 = ipS (20 + xs.length) id pl r src dst := by
    rw [List.append_assoc, List.take_append_of_le_length (by omega), List.take_of_length_le (by omega)]
  have hlen : (ipS (20 + xs.length) id pl r src dst ++ xs ++ rest).length = 20 + xs.length + rest.length := by simp [hl]; omega
  have hbody : ((ipS (20 + xs.length) id pl r src dst ++ xs ++ rest).take (20 + xs.length)).drop 20 = xs := by
    rw [List.take_append_of_le_length (by simp [hl]), List.take_of_length_le (by simp [hl]), List.drop_append_of_le_length (by omega), List.drop_of_length_le (by omega), List.nil_append]
  obtain ⟨s1, s2, hs⟩ := ipS_list (20 + xs.length) id pl r src dst
  have f22 : fld (ipS (20 + xs.length) id pl r src dst ++ xs ++ rest) 2 2 = 20 + xs.length := by rw [hs]; exact bev2 _ (by omega)
  have f42 : fld (ipS (20 + xs.length) id pl r src dst ++ xs ++ rest) 4 2 = id := by rw [hs]; exact bev2 _ hid
  have f62 : fld (ipS (20 + xs.length) id pl r src dst ++ xs ++ rest) 6 2 = pl := by rw [hs]; exact bev2 _ (by omega)
  have f91 : fld (ipS (20 + xs.length) id pl r src dst ++ xs ++ rest) 9 1 = r := by rw [hs]; exact bev1 _ (by omega)
  have f12 : fld (ipS (20 + xs.length) id pl r src dst ++ xs ++ rest) 12 4 = src := by rw [hs]; exact bev4 _ hsrc
  have f16 : fld (ipS (20 + xs.length) id pl r src dst ++ xs ++ rest) 16 4 = dst := by rw [hs]; exact bev4 _ hdst
  have g00 : (ipS (20 + xs.length) id pl r src dst ++ xs ++ rest).getD 0 0 = 69 := by rw [hs]; rfl
  have g80 : (ipS (20 + xs.length) id pl r src dst ++ xs ++ rest).getD 8 0 = 64 := by rw [hs]; rfl
  have hE : ipGetE (ipS (20 + xs.length) id pl r src dst ++ xs ++ rest) = 0 := by
    unfold ipGetE
    rw [f22, f62, g00, g80, ht, hck, hlen, if_neg (by omega), if_neg (by omega), if_neg (by intro h; rcases h with h | h | h <;> first | exact h rfl | omega), if_neg (by simp), if_neg (by decide), if_neg (by omega)]
  refine ⟨hE, ?_, by simp [hl], e2⟩
  unfold ipGet
  rw [if_pos hE]
  unfold ipGetP
  rw [f22, f42, f62, f91, f12, f16, hbody]
  have m1 : decide (pl / 8192 = 1 ∨ pl / 8192 = 3) = more := by
    rw [hpl2]; cases more <;> simp <;> omega
  have m2 : 8 * (pl % 8192) = 8 * q := by rw [hpl2]; split <;> omega
  rw [m1, m2]
end Go.Proofs.Ytieilgphcfiapaa
