/- What is proved here: reading inverts writing, in plain Lean. -/
import Derived.Test.YtebgehmgjafblaaG5
set_option linter.unusedVariables false
set_option linter.unusedSimpArgs false
namespace Go.Proofs.Ytebgehmgjafblaa
open Go.RowKit
theorem enc_split (x : Tc) : x.enc = be2 x.headN ++ be2 x.sizeN ++ [UInt8.ofNat x.seq.toNat] ++ x.data.data.toList ++ be2 (sum16 x.body).toNat := by simp [Tc.enc, Tc.body]
theorem headN_parts (c : Nat) (b k : Bool) (hc : c < 256) : (c + (if b = true then 8192 else 0) + (if k = true then 4096 else 0)) % 1024 = c ∧
    decide ((c + (if b = true then 8192 else 0) + (if k = true then 4096 else 0)) / 8192 % 2 = 1) = b ∧ decide ((c + (if b = true then 8192 else 0) + (if k = true then 4096 else 0)) / 4096 % 2 = 1) = k := by
  cases b <;> cases k <;> simp <;> omega
theorem getTc_enc (x : Tc) (hg : x.good = true) : getTc ⟨x.enc.toArray⟩ = x := by
  obtain ⟨e1, e2, e3, _, _⟩ := enc_nat2 x hg
  obtain ⟨c, ch, s, h1, h2, h3, h4, h5, h6, h7⟩ := x.good_nat hg
  have hsz : (⟨x.enc.toArray⟩ : ByteArray).size = x.data.size + 7 := by show x.enc.toArray.size = _; simp [e3]
  unfold getTc
  rw [e1, e2, hsz]
  have hd : (⟨x.enc.toArray⟩ : ByteArray).extract 5 (x.data.size + 7 - 2) = x.data := by
    apply ByteArray.ext
    apply Array.toList_inj.1
    rw [show ((⟨x.enc.toArray⟩ : ByteArray).extract 5 (x.data.size + 7 - 2)).data.toList = (x.enc.drop 5).take (x.data.size + 7 - 2 - 5) by
      simp [ByteArray.data_extract, Array.toList_extract, List.extract_eq_take_drop]]
    rw [enc_split]
    simp only [be2, List.cons_append, List.nil_append, List.append_assoc, List.drop_succ_cons, List.drop_zero]
    rw [show x.data.size + 7 - 2 - 5 = x.data.data.toList.length by rw [← Lib.size_eq]; omega]
    exact List.take_left' rfl
  have hs : (x.enc.getD 4 0).toNat = x.seq.toNat := by
    rw [enc_split]
    simp only [be2, List.cons_append, List.nil_append, List.append_assoc, List.getD_cons_succ, List.getD_cons_zero, UInt8.toNat_ofNat']
    rw [h7]; simp only [Int.toNat_natCast]; omega
  rw [hd, hs]
  rw [h7]
  obtain ⟨p1, p2, p3⟩ := headN_parts c x.byp x.ctl h1
  have hh : (Tc.mk c ch x.byp x.ctl s x.data).headN = c + (if x.byp = true then 8192 else 0) + (if x.ctl = true then 4096 else 0) := by unfold Tc.headN; simp only [Int.toNat_natCast]
  have hz : (Tc.mk c ch x.byp x.ctl s x.data).sizeN / 1024 = ch := by unfold Tc.sizeN; simp only [Int.toNat_natCast]; omega
  rw [hh, hz, p1, p2, p3]
  simp only [Int.toNat_natCast]
theorem sumOk_enc (x : Tc) (hg : x.good = true) : sumOk ⟨x.enc.toArray⟩ = true := by
  obtain ⟨_, _, e3, _, _⟩ := enc_nat2 x hg
  have hsz : (⟨x.enc.toArray⟩ : ByteArray).size = x.data.size + 7 := by show x.enc.toArray.size = _; simp [e3]
  have hbl : x.body.length = x.data.size + 5 := by
    have : x.enc.length = x.body.length + 2 := by simp [Tc.enc, be2]
    omega
  unfold sumOk
  apply decide_eq_true
  rw [hsz]
  have h1 := nat2_be2 (sum16 x.body).toNat x.body [] (sum16 x.body).isLt
  rw [List.append_nil] at h1
  rw [show x.data.size + 7 - 2 = x.body.length by omega]
  rw [show x.enc = x.body ++ be2 (sum16 x.body).toNat from rfl, h1]
  congr 2
  rw [show ((⟨(x.body ++ be2 (sum16 x.body).toNat).toArray⟩ : ByteArray).extract 0 x.body.length).data.toList = (x.body ++ be2 (sum16 x.body).toNat).take x.body.length by
    simp [ByteArray.data_extract, Array.toList_extract, List.extract_eq_take_drop]]
  rw [List.take_left' rfl]
theorem getP_enc (x : Tc) (hg : x.good = true) : getP ⟨x.enc.toArray⟩ = (x, 0) := by
  obtain ⟨_, _, e3, _, _⟩ := enc_nat2 x hg
  have hsz : (⟨x.enc.toArray⟩ : ByteArray).size = x.data.size + 7 := by show x.enc.toArray.size = _; simp [e3]
  obtain ⟨c, ch, s, h1, h2, h3, h4, h5, h6, h7⟩ := x.good_nat hg
  unfold getP
  rw [if_neg (by omega), if_pos (sumOk_enc x hg), getTc_enc x hg, hg]
  rw [if_pos (by simp)]
theorem getP_ok (b : ByteArray) (x : Tc) (h : getP b = (x, 0)) : x.good = true ∧ x.enc = b.data.toList := by
  unfold getP at h
  split at h
  · simp at h
  · split at h
    · split at h
      · rename_i h1
        simp only [Prod.mk.injEq, and_true] at h
        subst h
        simpa using h1
      · simp at h
    · simp at h
theorem front_enc (x : Tc) (after : ByteArray) (hg : x.good = true) : frontV (⟨x.enc.toArray⟩ ++ after) = front3 x (x.data.size + 7 : Nat) 0 := by
  obtain ⟨e1, e2, e3, a1, a2⟩ := enc_nat2 x hg
  have hsz : (⟨x.enc.toArray⟩ : ByteArray).size = x.data.size + 7 := by show x.enc.toArray.size = _; simp [e3]
  obtain ⟨c, ch, s, h1, h2, h3, h4, h5, h6, h7⟩ := x.good_nat hg
  have hl : ((⟨x.enc.toArray⟩ : ByteArray) ++ after).data.toList = x.enc ++ after.data.toList := by simp
  have hn2 : nat2 (⟨x.enc.toArray⟩ ++ after) 2 = x.sizeN := by
    rw [← e2]
    unfold nat2
    rw [hl]
    simp only [List.getD_eq_getElem?_getD]
    rw [List.getElem?_append_left (by omega), List.getElem?_append_left (by omega)]
  have hN : frontN (⟨x.enc.toArray⟩ ++ after) = x.data.size + 7 := by
    unfold frontN
    rw [hn2]
    have : x.sizeN = ch * 1024 + (x.data.size + 6) := by rw [h7]; unfold Tc.sizeN; simp only [Int.toNat_natCast]
    omega
  have hts : ((⟨x.enc.toArray⟩ : ByteArray) ++ after).size = x.data.size + 7 + after.size := by rw [ByteArray.size_append, hsz]
  have hex : ((⟨x.enc.toArray⟩ : ByteArray) ++ after).extract 0 (x.data.size + 7) = ⟨x.enc.toArray⟩ := by
    apply ByteArray.ext
    apply Array.toList_inj.1
    rw [show (((⟨x.enc.toArray⟩ : ByteArray) ++ after).extract 0 (x.data.size + 7)).data.toList = (x.enc ++ after.data.toList).take (x.data.size + 7) by
      simp [ByteArray.data_extract, Array.toList_extract, List.extract_eq_take_drop, List.take_append]]
    exact List.take_left' e3
  unfold frontV
  rw [hN, if_neg (by rw [hts]; omega), hex, getP_enc x hg]
  rfl
end Go.Proofs.Ytebgehmgjafblaa
