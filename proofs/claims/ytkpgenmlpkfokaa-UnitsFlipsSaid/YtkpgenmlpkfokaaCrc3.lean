/- What is proved here: plain laws of the two checksums: a change within so many bits as the register holds is seen. No condition. -/
import Derived.Test.YtkpgenmlpkfokaaCrc2
import Derived.Test.YtkpgenmlpkfokaaKit
set_option linter.unusedVariables false
set_option linter.unusedSimpArgs false
namespace Go.Proofs.Ytkpgenmlpkfokaa
def bitH (l : List UInt8) (p : Nat) : Bool := (l.getD (p / 8) 0).toNat.testBit (7 - p % 8)
def bitL (l : List UInt8) (p : Nat) : Bool := (l.getD (p / 8) 0).toNat.testBit (p % 8)
theorem allH_get : ∀ (l : List UInt8) (p : Nat), (allH l).getD p false = bitH l p
  | [], p => by simp [allH, bitH]
  | c :: l, p => by
    rw [allH, List.flatMap_cons, ← allH]
    by_cases h : p < 8
    · rw [List.getD_eq_getElem?_getD, List.getElem?_append_left (by rw [bitsH_length]; exact h), bitH, show p / 8 = 0 by omega, show p % 8 = p by omega]
      simp [bitsH, h]
    · have ih := allH_get l (p - 8)
      rw [List.getD_eq_getElem?_getD, List.getElem?_append_right (by rw [bitsH_length]; omega), bitsH_length, ← List.getD_eq_getElem?_getD, ih, bitH, bitH, show p / 8 = (p - 8) / 8 + 1 by omega, show p % 8 = (p - 8) % 8 by omega]
      rfl
theorem allL_get : ∀ (l : List UInt8) (p : Nat), (allL l).getD p false = bitL l p
  | [], p => by simp [allL, bitL]
  | c :: l, p => by
    rw [allL, List.flatMap_cons, ← allL]
    by_cases h : p < 8
    · rw [List.getD_eq_getElem?_getD, List.getElem?_append_left (by rw [bitsL_length]; exact h), bitL, show p / 8 = 0 by omega, show p % 8 = p by omega]
      simp [bitsL, h]
    · have ih := allL_get l (p - 8)
      rw [List.getD_eq_getElem?_getD, List.getElem?_append_right (by rw [bitsL_length]; omega), bitsL_length, ← List.getD_eq_getElem?_getD, ih, bitL, bitL, show p / 8 = (p - 8) / 8 + 1 by omega, show p % 8 = (p - 8) % 8 by omega]
      rfl
theorem byte_bits (c d : UInt8) (h : ∀ i, i < 8 → c.toNat.testBit i = d.toNat.testBit i) : c = d := by
  apply UInt8.toNat_inj.1
  apply Nat.eq_of_testBit_eq
  intro i
  by_cases hi : i < 8
  · exact h i hi
  · have hp : 2 ^ 8 ≤ 2 ^ i := Nat.pow_le_pow_right (by omega) (by omega)
    have h1 := c.toNat_lt; have h2 := d.toNat_lt
    rw [Nat.testBit_lt_two_pow (by omega), Nat.testBit_lt_two_pow (by omega)]
theorem bytes_bitsH (l m : List UInt8) (hl : l.length = m.length) (h : ∀ p, bitH l p = bitH m p) : l = m := by
  refine List.ext_getElem hl fun i h1 h2 => byte_bits _ _ fun t ht => ?_
  have := h (8 * i + (7 - t))
  rw [bitH, bitH, show (8 * i + (7 - t)) / 8 = i by omega, show 7 - (8 * i + (7 - t)) % 8 = t by omega] at this
  simpa [h1, h2] using this
theorem bytes_bitsL (l m : List UInt8) (hl : l.length = m.length) (h : ∀ p, bitL l p = bitL m p) : l = m := by
  refine List.ext_getElem hl fun i h1 h2 => byte_bits _ _ fun t ht => ?_
  have := h (8 * i + t)
  rw [bitL, bitL, show (8 * i + t) / 8 = i by omega, show (8 * i + t) % 8 = t by omega] at this
  simpa [h1, h2] using this
theorem xor_pow_bit (c : UInt8) (t i : Nat) (ht : t ≤ 7) (h : i ≠ t) : (c ^^^ ((1 : UInt8) <<< UInt8.ofNat t)).toNat.testBit i = c.toNat.testBit i := by
  rw [UInt8.toNat_xor, Nat.testBit_xor, pow_u8 t ht, Nat.testBit_two_pow]
  simp [Ne.symm h]
theorem flipAt_bit (l : List UInt8) (k p : Nat) (h : p ≠ k) : bitH (flipAt l k) p = bitH l p := by
  unfold bitH flipAt
  simp only [List.getD_eq_getElem?_getD, List.getElem?_set]
  by_cases he : k / 8 = p / 8
  · by_cases hl : k / 8 < l.length
    · rw [if_pos he, if_pos hl, ← he]
      exact xor_pow_bit _ _ _ (by omega) (by omega)
    · rw [if_pos he, if_neg hl]
      rw [List.getElem?_eq_none (by omega)]
  · rw [if_neg he]
def flipL (l : List UInt8) (k : Nat) : List UInt8 := l.set (k / 8) (l.getD (k / 8) 0 ^^^ (1 <<< UInt8.ofNat (k % 8)))
theorem flipL_bit (l : List UInt8) (k p : Nat) (h : p ≠ k) : bitL (flipL l k) p = bitL l p := by
  unfold bitL flipL
  simp only [List.getD_eq_getElem?_getD, List.getElem?_set]
  by_cases he : k / 8 = p / 8
  · by_cases hl : k / 8 < l.length
    · rw [if_pos he, if_pos hl, ← he]
      exact xor_pow_bit _ _ _ (by omega) (by omega)
    · rw [if_pos he, if_neg hl]
      rw [List.getElem?_eq_none (by omega)]
  · rw [if_neg he]
theorem flipAt_length (l : List UInt8) (k : Nat) : (flipAt l k).length = l.length := by simp [flipAt]
theorem flipL_length (l : List UInt8) (k : Nat) : (flipL l k).length = l.length := by simp [flipL]
/-- A change within so many bits as the register holds, wherever it lies. -/
theorem burst_at {n : Nat} {sh : BitVec n → BitVec n} {e : Nat → BitVec n} (h : Lin sh) (h0 : ∀ x, sh x = 0#n → x = 0#n) (he : ∀ i, i + 1 < n → sh (e (i + 1)) = e i)
    (hemb : ∀ l : List Bool, l.length = n → emb e 0 l = 0#n → ∀ b ∈ l, b = false) (D : List Bool) (lo : Nat) (hD : ∀ i, D.getD i false = true → lo ≤ i ∧ i < lo + n) (hr : run sh (e 0) 0#n D = 0#n) :
    ∀ i, D.getD i false = false := by
  obtain ⟨s, hs⟩ : ∃ s, s = min (lo + n) D.length := ⟨_, rfl⟩
  obtain ⟨P, hP⟩ : ∃ P, P = List.replicate n false ++ D := ⟨_, rfl⟩
  have hPl : P.length = n + D.length := by rw [hP]; simp
  have hPr : run sh (e 0) 0#n P = 0#n := by
    rw [hP, run_append, run_false _ _ _ (fun b hb => (List.mem_replicate.1 hb).2), (h.iter _).zero]; exact hr
  have hPg : ∀ i, P[i]? = if i < n then some false else D[i - n]? := by
    intro i; rw [hP]
    by_cases hi : i < n
    · rw [if_pos hi, List.getElem?_append_left (by simpa using hi)]; simp [hi]
    · rw [if_neg hi, List.getElem?_append_right (by simp; omega)]; simp
  have hPf : ∀ i (b : Bool), P[i]? = some b → b = true → n + lo ≤ i ∧ i < n + lo + n ∧ i < n + D.length := by
    intro i b hb ht
    subst ht
    rw [hPg i] at hb
    split at hb
    · cases hb
    · have := hD (i - n) (by rw [List.getD_eq_getElem?_getD, hb]; rfl)
      obtain ⟨hlt, _⟩ := List.getElem?_eq_some_iff.1 hb
      omega
  have hsplit : P = P.take s ++ (P.drop s).take n ++ P.drop (s + n) := by
    rw [List.append_assoc, ← List.drop_drop, List.take_append_drop, List.take_append_drop]
  have hfa : ∀ b ∈ P.take s, b = false := by
    intro b hb
    obtain ⟨i, hi⟩ := List.mem_iff_getElem?.1 hb
    rw [List.getElem?_take] at hi
    split at hi
    · rename_i hlt
      cases b
      · rfl
      · have := hPf i true hi rfl; omega
    · cases hi
  have hfz : ∀ b ∈ P.drop (s + n), b = false := by
    intro b hb
    obtain ⟨i, hi⟩ := List.mem_iff_getElem?.1 hb
    rw [List.getElem?_drop] at hi
    cases b
    · rfl
    · have := hPf _ true hi rfl; omega
  have hw : ((P.drop s).take n).length = n := by simp [hPl]; omega
  have hall := burst h h0 he hemb (P.take s) ((P.drop s).take n) (P.drop (s + n)) hfa hfz hw (by rw [← hsplit]; exact hPr)
  have hPall : ∀ b ∈ P, b = false := by
    intro b hb
    rw [hsplit] at hb
    rcases List.mem_append.1 hb with hb | hb
    · rcases List.mem_append.1 hb with hb | hb
      · exact hfa b hb
      · exact hall b hb
    · exact hfz b hb
  intro i
  rw [List.getD_eq_getElem?_getD]
  cases hd : D[i]? with
  | none => rfl
  | some b =>
    exact hPall b (by rw [hP]; exact List.mem_append_right _ (List.mem_iff_getElem?.2 ⟨i, hd⟩))
theorem zip_get (a b : List Bool) (hl : a.length = b.length) (i : Nat) : (List.zipWith (· ^^ ·) a b).getD i false = (a.getD i false ^^ b.getD i false) := by
  simp only [List.getD_eq_getElem?_getD, List.getElem?_zipWith]
  by_cases h : i < a.length
  · rw [List.getElem?_eq_getElem h, List.getElem?_eq_getElem (by omega)]; rfl
  · rw [List.getElem?_eq_none (by omega), List.getElem?_eq_none (by omega)]; rfl
theorem burst16 (l m : List UInt8) (hl : l.length = m.length) (lo : Nat) (h : ∀ p, ¬ (lo ≤ p ∧ p < lo + 16) → bitH l p = bitH m p) (r : BitVec 16) (hs : next16 r l = next16 r m) : l = m := by
  have hal : (allH l).length = (allH m).length := by rw [allH_length, allH_length, hl]
  have hx : run sh16 (e16 0) 0#16 (List.zipWith (· ^^ ·) (allH l) (allH m)) = 0#16 := by
    have := run_xor lin16 (e16 0) (allH l) (allH m) r r hal
    rw [BitVec.xor_self] at this
    rw [← this]
    show next16 r l ^^^ next16 r m = _
    rw [hs, BitVec.xor_self]
  have := burst_at lin16 inj16 he16 hemb16 _ lo (fun i hi => by
    rw [zip_get _ _ hal, allH_get, allH_get] at hi
    rcases Classical.em (lo ≤ i ∧ i < lo + 16) with h1 | h1
    · exact h1
    · rw [h i h1, Bool.xor_self] at hi; cases hi) hx
  refine bytes_bitsH l m hl fun p => ?_
  have hp := this p
  rw [zip_get _ _ hal, allH_get, allH_get] at hp
  revert hp; cases bitH l p <;> cases bitH m p <;> simp
theorem burst32 (l m : List UInt8) (hl : l.length = m.length) (lo : Nat) (h : ∀ p, ¬ (lo ≤ p ∧ p < lo + 32) → bitL l p = bitL m p) (s : BitVec 32) (hs : next32 s l = next32 s m) : l = m := by
  have hal : (allL l).length = (allL m).length := by rw [allL_length, allL_length, hl]
  have hx : run sh32 (e32 0) 0#32 (List.zipWith (· ^^ ·) (allL l) (allL m)) = 0#32 := by
    have := run_xor lin32 (e32 0) (allL l) (allL m) (~~~ s) (~~~ s) hal
    rw [BitVec.xor_self] at this
    rw [← this]
    show feed32 (~~~ s) l ^^^ feed32 (~~~ s) m = _
    have h2 : feed32 (~~~ s) l = feed32 (~~~ s) m := by
      have := congrArg (~~~ ·) hs
      simpa [next32] using this
    rw [h2, BitVec.xor_self]
  have := burst_at lin32 inj32 he32 hemb32 _ lo (fun i hi => by
    rw [zip_get _ _ hal, allL_get, allL_get] at hi
    rcases Classical.em (lo ≤ i ∧ i < lo + 32) with h1 | h1
    · exact h1
    · rw [h i h1, Bool.xor_self] at hi; cases hi) hx
  refine bytes_bitsL l m hl fun p => ?_
  have hp := this p
  rw [zip_get _ _ hal, allL_get, allL_get] at hp
  revert hp; cases bitL l p <;> cases bitL m p <;> simp
end Go.Proofs.Ytkpgenmlpkfokaa
