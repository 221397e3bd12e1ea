/- What is proved here: strings in which some bits, all of them within 16 consecutive ones, are inverted have another sum. -/
import Derived.Test.YtkpgenmlpkfokaaKit
import Derived.Test.YtkpgenmlpkfokaaCrc3
import Derived.Test.YtkpgenmlpkfokaaC3
set_option linter.unusedVariables false
set_option linter.unusedSimpArgs false
namespace Go.Proofs.Ytkpgenmlpkfokaa
open Go.RowKit
theorem flp_loB_shl (r : BitVec 16) : loB ((r <<< 8) >>> 8) = loB r := by
  unfold loB; congr 1
  rw [BitVec.toNat_ushiftRight, BitVec.toNat_shiftLeft, Nat.shiftLeft_eq, Nat.shiftRight_eq_div_pow]
  omega
theorem flp_code_zero (r : BitVec 16) : next16 r (crcBytes r) = 0#16 := by
  have h8 : ∀ x : BitVec 16, x ^^^ tab16 (0 : UInt8).toNat = x := by
    intro x; rw [show tab16 (0 : UInt8).toNat = 0#16 by decide +kernel, BitVec.xor_zero]
  rw [crcBytes, next16_cons, UInt8.xor_self, h8, next16_cons, flp_loB_shl, UInt8.xor_self, h8, next16_nil, ← BitVec.shiftLeft_add]
  apply BitVec.eq_of_getLsbD_eq; intro i hi; simp
theorem flp_closed_zero (l : List UInt8) : sum16 (closed l) = 0#16 := by
  rw [closed, sum16, next16_append]; exact flp_code_zero _
theorem flp_xor_bit : ∀ x : Fin 256, ∀ t : Fin 8, ((UInt8.ofNat x.val) ^^^ ((1 : UInt8) <<< UInt8.ofNat t.val)).toNat.testBit t.val = !((UInt8.ofNat x.val).toNat.testBit t.val) := by decide +kernel
theorem flipAt_self (l : List UInt8) (k : Nat) (h : k < 8 * l.length) : bitH (flipAt l k) k = !bitH l k := by
  unfold bitH flipAt
  have hk : k / 8 < l.length := by omega
  simp only [List.getD_eq_getElem?_getD, List.getElem?_set_self hk, Option.getD_some, List.getElem?_eq_getElem hk]
  have h2 := flp_xor_bit ⟨(l[k / 8]).toNat, (l[k / 8]).toNat_lt⟩ ⟨7 - k % 8, by omega⟩
  simpa using h2
theorem flipAt_len (l : List UInt8) (k : Nat) : (flipAt l k).length = l.length := by unfold flipAt; simp
/-- The first i of the chosen bits are inverted. -/
def flips (L : List UInt8) (k0 bits : Nat) : Nat → List UInt8
  | 0 => L
  | i + 1 => if bits / 2 ^ i % 2 = 1 then flipAt (flips L k0 bits i) (k0 + i) else flips L k0 bits i
theorem flips_len (L : List UInt8) (k0 bits i : Nat) : (flips L k0 bits i).length = L.length := by
  induction i with
  | zero => rfl
  | succ i ih => unfold flips; split
                 · rw [flipAt_len, ih]
                 · exact ih
theorem flips_out (L : List UInt8) (k0 bits i p : Nat) (h : ¬ (k0 ≤ p ∧ p < k0 + i)) : bitH (flips L k0 bits i) p = bitH L p := by
  induction i with
  | zero => rfl
  | succ i ih =>
    unfold flips
    split
    · rw [flipAt_bit _ _ _ (by omega)]; exact ih (by omega)
    · exact ih (by omega)
theorem flips_in (L : List UInt8) (k0 bits i j : Nat) (hj : j < i) (hb : bits / 2 ^ j % 2 = 1) (hk : k0 + i ≤ 8 * L.length) : bitH (flips L k0 bits i) (k0 + j) = !bitH L (k0 + j) := by
  induction i with
  | zero => omega
  | succ i ih =>
    by_cases hji : j = i
    · subst hji
      unfold flips
      rw [if_pos hb, flipAt_self _ _ (by rw [flips_len]; omega), flips_out _ _ _ _ _ (by omega)]
    · unfold flips
      split
      · rw [flipAt_bit _ _ _ (by omega)]; exact ih (by omega) (by omega)
      · exact ih (by omega) (by omega)
theorem some_bit (bits : Nat) (h0 : bits ≠ 0) (h : bits < 65536) : ∃ j, j < 16 ∧ bits / 2 ^ j % 2 = 1 := by
  obtain ⟨i, hi⟩ := Nat.exists_testBit_of_ne_zero h0
  have hlt : i < 16 := by
    by_cases h16 : i < 16
    · exact h16
    · have : bits < 2 ^ i := Nat.lt_of_lt_of_le (show bits < 2 ^ 16 by omega) (Nat.pow_le_pow_right (by omega) (Nat.le_of_not_lt h16))
      rw [Nat.testBit_lt_two_pow this] at hi
      cases hi
  refine ⟨i, hlt, ?_⟩
  rw [Nat.testBit_eq_decide_div_mod_eq] at hi
  exact of_decide_eq_true hi
theorem flips_sum (l : List UInt8) (k0 bits : Nat) (h0 : bits ≠ 0) (h : bits < 65536) (hk : k0 + 16 ≤ 8 * (closed l).length) : sum16 (flips (closed l) k0 bits 16) ≠ 0#16 := by
  intro hs
  obtain ⟨j, hj, hb⟩ := some_bit bits h0 h
  have he : flips (closed l) k0 bits 16 = closed l := burst16 _ _ (flips_len _ _ _ _) k0 (fun p hp => flips_out _ _ _ _ _ hp) _ (show next16 0xffff#16 _ = next16 0xffff#16 _ from hs.trans (flp_closed_zero l).symm)
  have h2 := flips_in (closed l) k0 bits 16 j hj hb hk
  rw [he] at h2
  cases hx : bitH (closed l) (k0 + j) <;> rw [hx] at h2 <;> cases h2
end Go.Proofs.Ytkpgenmlpkfokaa
