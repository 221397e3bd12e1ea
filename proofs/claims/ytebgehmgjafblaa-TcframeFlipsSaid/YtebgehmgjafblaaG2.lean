/- What is proved here: the fields of a frame's first bytes, in plain Lean, and what Get answers. -/
import Derived.Test.YtebgehmgjafblaaG1
import Derived.Test.YtebgehmgjafblaaC3
set_option linter.unusedVariables false
set_option linter.unusedSimpArgs false
namespace Go.Proofs.Ytebgehmgjafblaa
open Go.RowKit
theorem and1023 (n : Nat) (h : n < 65536) : bits .and .u16 (n : Int) 1023 = ((n % 1024 : Nat) : Int) := by
  have e : (n : Int) = w16 (BitVec.ofNat 16 n) := by rw [w16_ofNat]; omega
  rw [e, w16_and_lit]
  unfold w16
  rw [BitVec.toNat_and, BitVec.toNat_ofNat]
  rw [show (BitVec.ofInt 16 1023).toNat = 2 ^ 10 - 1 from rfl, Nat.and_two_pow_sub_one_eq_mod]
  omega
theorem and_two_pow (n k : Nat) : n &&& 2 ^ k = (n.testBit k).toNat * 2 ^ k := by
  apply Nat.eq_of_testBit_eq
  intro i
  rw [Nat.testBit_and, Nat.testBit_two_pow]
  by_cases hi : k = i
  · subst hi
    cases hb : n.testBit k <;> simp [Nat.testBit_two_pow]
  · cases hb : n.testBit k <;> simp [Nat.testBit_two_pow, hi]
theorem and_bit (n k : Nat) (h : n < 65536) (hk : k < 16) : (bits .and .u16 (n : Int) ((2 ^ k : Nat) : Int) != 0) = decide (n / 2 ^ k % 2 = 1) := by
  have e : (n : Int) = w16 (BitVec.ofNat 16 n) := by rw [w16_ofNat]; omega
  have h2 : (2 : Nat) ^ k < 65536 := Nat.lt_of_le_of_lt (Nat.pow_le_pow_right (by omega) (show k ≤ 15 by omega)) (by omega)
  rw [e, w16_and_lit]
  unfold w16
  rw [BitVec.toNat_and, BitVec.toNat_ofNat, BitVec.ofInt_natCast, BitVec.toNat_ofNat, Nat.mod_eq_of_lt (by omega : n < 2 ^ 16), Nat.mod_eq_of_lt (by omega : 2 ^ k < 2 ^ 16), and_two_pow, Nat.testBit_eq_decide_div_mod_eq]
  by_cases hb : n / 2 ^ k % 2 = 1
  · have := Nat.two_pow_pos k
    rw [decide_eq_true hb]
    simp only [Bool.toNat_true, Nat.one_mul, bne_iff_ne, ne_eq]
    omega
  · rw [decide_eq_false hb]; simp
theorem and8192 (n : Nat) (h : n < 65536) : (bits .and .u16 (n : Int) 8192 != 0) = decide (n / 8192 % 2 = 1) := and_bit n 13 h (by omega)
theorem and4096 (n : Nat) (h : n < 65536) : (bits .and .u16 (n : Int) 4096 != 0) = decide (n / 4096 % 2 = 1) := and_bit n 12 h (by omega)
/-- The frame that the bytes say. -/
def getTc (b : ByteArray) : Tc := ⟨(nat2 b 0 % 1024 : Nat), (nat2 b 2 / 1024 : Nat), decide (nat2 b 0 / 8192 % 2 = 1), decide (nat2 b 0 / 4096 % 2 = 1), ((b.data.toList.getD 4 0).toNat : Nat), b.extract 5 (b.size - 2)⟩
def sumOk (b : ByteArray) : Bool := decide (nat2 b (b.size - 2) = (sum16 (b.extract 0 (b.size - 2)).data.toList).toNat)
def getBad (e : Int) : Value := .tuple #[Tc.zero.val, .int .i64 e]
/-- What Get answers. -/
def getV (b : ByteArray) : Value :=
  if b.size ≤ 7 ∨ 207 < b.size then getBad 6
  else if sumOk b then (if (getTc b).good && decide ((getTc b).enc = b.data.toList) then .tuple #[(getTc b).val, .int .i64 0] else getBad 6)
  else getBad 120
theorem be2_inj {n m : Nat} (h : be2 n = be2 m) (hn : n < 65536) (hm : m < 65536) : n = m := by
  simp only [be2, List.cons.injEq, and_true] at h
  have h1 := congrArg UInt8.toNat h.1
  have h2 := congrArg UInt8.toNat h.2
  simp only [UInt8.toNat_ofNat'] at h1 h2
  omega
theorem be2_nat2 (b : ByteArray) (i : Nat) : be2 (nat2 b i) = [b.data.toList.getD i 0, b.data.toList.getD (i + 1) 0] := by
  have h1 := (b.data.toList.getD i 0).toNat_lt
  have h2 := (b.data.toList.getD (i + 1) 0).toNat_lt
  unfold be2 nat2
  congr 1
  · apply UInt8.toNat_inj.1
    rw [UInt8.toNat_ofNat']; omega
  · congr 1
    apply UInt8.toNat_inj.1
    rw [UInt8.toNat_ofNat']; omega
theorem toList_ext {xs : List UInt8} {n : Nat} (hl : xs.length = n) : xs = (List.range n).map (fun i => xs.getD i 0) := by
  apply List.ext_getElem
  · simp [hl]
  · intro i h1 h2
    simp [List.getD_eq_getElem?_getD, List.getElem?_eq_getElem h1]
/-- The frame's encoding is the string, if and only if the two fields are right. -/
theorem enc_iff (b : ByteArray) (h1 : 8 ≤ b.size) (h2 : b.size ≤ 207) (hs : sumOk b = true) (hg : (getTc b).good = true) : ((getTc b).enc = b.data.toList) ↔ ((getTc b).headN = nat2 b 0 ∧ (getTc b).sizeN = nat2 b 2) := by
  have hbl : b.data.toList.length = b.size := by rw [← Lib.size_eq]
  obtain ⟨e1, e2, e3, e4, e5⟩ := enc_nat2 _ hg
  constructor
  · intro h
    have hb : (⟨(getTc b).enc.toArray⟩ : ByteArray) = b := by rw [h]
    rw [hb] at e1 e2
    exact ⟨e1.symm, e2.symm⟩
  · rintro ⟨hh, hz⟩
    have hbody : (getTc b).body = (b.extract 0 (b.size - 2)).data.toList := by
      unfold Tc.body
      rw [hh, hz, be2_nat2, be2_nat2]
      have hseq : UInt8.ofNat (getTc b).seq.toNat = b.data.toList.getD 4 0 := by
        show UInt8.ofNat (((b.data.toList.getD 4 0).toNat : Nat) : Int).toNat = _
        rw [Int.toNat_natCast]
        simp
      rw [hseq]
      have hd : (getTc b).data.data.toList = (b.data.toList.drop 5).take (b.size - 2 - 5) := by
        show (b.extract 5 (b.size - 2)).data.toList = _
        simp [ByteArray.data_extract, Array.toList_extract, List.extract_eq_take_drop]
      have hr : (b.extract 0 (b.size - 2)).data.toList = b.data.toList.take (b.size - 2) := by
        simp [ByteArray.data_extract, Array.toList_extract, List.extract_eq_take_drop]
      rw [hd, hr]
      generalize hL : b.data.toList = L at hbl
      match L, hbl with
      | a0 :: a1 :: a2 :: a3 :: a4 :: T, hbl =>
        obtain ⟨q, hq⟩ : ∃ q, b.size - 2 = q + 5 := ⟨b.size - 7, by omega⟩
        rw [hq, Nat.add_sub_cancel]
        simp [List.getD_eq_getElem?_getD]
      | [], h => simp at h; omega
      | [_], h => simp at h; omega
      | [_, _], h => simp at h; omega
      | [_, _, _], h => simp at h; omega
      | [_, _, _, _], h => simp at h; omega
    unfold Tc.enc
    rw [hbody]
    have hsum := of_decide_eq_true hs
    rw [← hsum, be2_nat2]
    have hr : (b.extract 0 (b.size - 2)).data.toList = b.data.toList.take (b.size - 2) := by
      simp [ByteArray.data_extract, Array.toList_extract, List.extract_eq_take_drop]
    rw [hr]
    have h3 := ext_two b (b.size - 2) (by omega)
    rw [← h3]
    rw [show (b.extract (b.size - 2) (b.size - 2 + 2)).data.toList = b.data.toList.drop (b.size - 2) by
      rw [show b.size - 2 + 2 = b.size by omega]
      simp [ByteArray.data_extract, Array.toList_extract, List.extract_eq_take_drop]
      exact List.take_of_length_le (by simp)]
    exact List.take_append_drop _ _
end Go.Proofs.Ytebgehmgjafblaa
