/- What is proved here: a frame with inverted bits has another sum, in plain Lean. -/
import Derived.Test.YtebgehmgjafblaaG2
import Derived.Test.YtebgehmgjafblaaFlp
set_option linter.unusedVariables false
set_option linter.unusedSimpArgs false
namespace Go.Proofs.Ytebgehmgjafblaa
open Go.RowKit
theorem be2_crc (r : BitVec 16) : be2 r.toNat = crcBytes r := by
  unfold be2 crcBytes loB
  have h := r.isLt
  have h1 : (r >>> 8).toNat = r.toNat / 256 := by rw [BitVec.toNat_ushiftRight, Nat.shiftRight_eq_div_pow]
  rw [h1]
  congr 1
  · congr 1; omega
  · congr 1
    apply UInt8.toNat_inj.1
    rw [UInt8.toNat_ofNat', UInt8.toNat_ofNat']; omega
theorem enc_closed (x : Tc) : x.enc = closed x.body := by unfold Tc.enc closed; rw [be2_crc]
theorem sumOk_zero (b : ByteArray) (h : 2 ≤ b.size) (hs : sumOk b = true) : sum16 b.data.toList = 0#16 := by
  have hr : (b.extract 0 (b.size - 2)).data.toList = b.data.toList.take (b.size - 2) := by
    simp [ByteArray.data_extract, Array.toList_extract, List.extract_eq_take_drop]
  have h1 := of_decide_eq_true hs
  have h2 := be2_nat2 b (b.size - 2)
  have h3 := ext_two b (b.size - 2) (by omega)
  rw [h1, be2_crc, hr] at h2
  have h4 : (b.extract (b.size - 2) (b.size - 2 + 2)).data.toList = b.data.toList.drop (b.size - 2) := by
    rw [show b.size - 2 + 2 = b.size by omega]
    simp [ByteArray.data_extract, Array.toList_extract, List.extract_eq_take_drop]
    exact List.take_of_length_le (by simp)
  rw [h4] at h3
  have h5 : b.data.toList = closed (b.data.toList.take (b.size - 2)) := by
    unfold closed
    rw [h2, ← h3, List.take_append_drop]
  rw [h5]
  exact flp_closed_zero _
/-- What Get answers for a frame with inverted bits. -/
theorem get_flips (x : Tc) (k0 bits : Nat) (hg : x.good = true) (h0 : bits ≠ 0) (h : bits < 65536) (hk : k0 + 16 ≤ 8 * x.enc.length) : getV ⟨(flips x.enc k0 bits 16).toArray⟩ = getBad 120 := by
  obtain ⟨_, _, e3, _, _⟩ := enc_nat2 x hg
  obtain ⟨_, _, _, _, _, _, h4, h5, _, _⟩ := x.good_nat hg
  have hsz : (⟨(flips x.enc k0 bits 16).toArray⟩ : ByteArray).size = x.data.size + 7 := by
    show (flips x.enc k0 bits 16).toArray.size = _
    rw [List.size_toArray, flips_len, e3]
  have hbad : ¬ sumOk ⟨(flips x.enc k0 bits 16).toArray⟩ = true := by
    intro hs
    have := sumOk_zero _ (by omega) hs
    rw [enc_closed] at this hk
    exact flips_sum x.body k0 bits h0 h hk this
  unfold getV
  rw [if_neg (by omega), if_neg hbad]
end Go.Proofs.Ytebgehmgjafblaa
