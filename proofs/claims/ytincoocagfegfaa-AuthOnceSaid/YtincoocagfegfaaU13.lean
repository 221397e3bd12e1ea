/- What is proved here: what is sealed is opened, and what is opened was sealed. No program in sight. -/
import Derived.Test.YtincoocagfegfaaS17
set_option linter.unusedVariables false
set_option linter.unusedSimpArgs false
namespace Go.Proofs.Ytincoocagfegfaa
open Go.RowKit
theorem bodyL_length (c : Cm) : (bodyL c).length = 9 + c.args.size := by simp [bodyL, be8]; omega
theorem sumL_length (key : List UInt8) (ch : Int) (b : List UInt8) : (sumL key ch b).length = 8 := by simp [sumL, be8]
theorem ba_ext (a b : ByteArray) (h : a.data.toList = b.data.toList) : a = b := by
  apply ByteArray.ext; exact Array.ext' h
theorem size_list (d : ByteArray) : d.size = d.data.toList.length := by simp
theorem open_seal (key : List UInt8) (s : Gs) (c : Cm) (d : ByteArray) (hc : c.ok) (hd : d.data.toList = sealL key c) :
    openIn key s c.chan d = if c.cnt.toNat ≤ (s.l c.chan.toNat).toNat then ⟨s, Cm.zero, ⟨#[]⟩, 171⟩ else ⟨s.take c.chan.toNat c.cnt, c, ⟨(textL (s.take c.chan.toNat c.cnt)).toArray⟩, 0⟩ := by
  obtain ⟨h1, h2, h3, h4, h5, h6⟩ := hc
  have hs : d.size = 17 + c.args.size := by rw [size_list, hd, sealL, List.length_append, bodyL_length, sumL_length]; omega
  have hm : d.size - 8 = 9 + c.args.size := by omega
  have e1 : (d.extract 0 (d.size - 8)).data.toList = bodyL c := by
    rw [extract_list, hd, hm, sealL, List.drop_zero, Nat.sub_zero]
    exact List.take_left' (bodyL_length c)
  have e2 : (d.extract (d.size - 8) d.size).data.toList = sumL key c.chan (bodyL c) := by
    rw [extract_list, hd, sealL, hm, List.drop_left' (bodyL_length c)]
    exact List.take_of_length_le (by rw [sumL_length]; omega)
  have e3 : num64 (d.extract 0 8).data.toList = c.cnt := by
    rw [extract_list, hd, List.drop_zero, sealL, bodyL, List.append_assoc, List.append_assoc, List.take_left' (be8_length' _), num64_be8]
  have e4 : d.data.toList.getD 8 0 = chB c.op := by
    rw [hd, sealL, bodyL, List.append_assoc, List.append_assoc, List.getD_eq_getElem?_getD, List.getElem?_append_right (by rw [be8_length']; omega), be8_length']
    rfl
  have e5 : d.extract 9 (d.size - 8) = c.args := by
    apply ba_ext
    rw [extract_list, hd, sealL, bodyL, hm, List.append_assoc, List.drop_left' (by simp [be8])]
    rw [List.take_left' (by simp)]
  unfold openIn
  simp only [e1, e2, e3, e4, e5]
  rw [if_neg (by simp)]
  have e6 : ((chB c.op).toNat : Int) = c.op := (chB_int c.op h4 h5).symm
  rw [e6]
theorem take_parts (l : List UInt8) (m : Nat) (h9 : 9 ≤ m) (hm : m ≤ l.length) : l.take 8 ++ [l.getD 8 0] ++ (l.drop 9).take (m - 9) = l.take m := by
  have h8 : 8 < l.length := by omega
  have e1 : l.drop 8 = l.getD 8 0 :: l.drop 9 := by
    rw [List.drop_eq_getElem_cons h8, List.getD_eq_getElem?_getD, List.getElem?_eq_getElem h8]; rfl
  obtain ⟨k, rfl⟩ : ∃ k, m = 8 + (k + 1) := ⟨m - 9, by omega⟩
  rw [List.take_add, e1, List.take_succ_cons, List.append_assoc, show 8 + (k + 1) - 9 = k by omega]
  rfl
theorem open_was (key : List UInt8) (s : Gs) (ch : Nat) (d : ByteArray) (h7 : ch < 8) (hd : 17 ≤ d.size) (hd2 : d.size ≤ 197) (he : (openIn key s ch d).err = 0) :
    (openIn key s ch d).cmd.ok ∧ (openIn key s ch d).cmd.chan = ch ∧ d.data.toList = sealL key (openIn key s ch d).cmd ∧ (s.l ch).toNat < (openIn key s ch d).cmd.cnt.toNat ∧ (openIn key s ch d).st = s.take ch (openIn key s ch d).cmd.cnt ∧ (openIn key s ch d).save = ⟨(textL (openIn key s ch d).st).toArray⟩ := by
  by_cases hr : (sumL key ch (d.extract 0 (d.size - 8)).data.toList == (d.extract (d.size - 8) d.size).data.toList) = false
  · exfalso
    unfold openIn at he
    rw [if_pos hr] at he
    simp at he
  · by_cases hn : (num64 (d.extract 0 8).data.toList).toNat ≤ (s.l ch).toNat
    · exfalso
      unfold openIn at he
      rw [if_neg hr] at he
      simp only [Int.toNat_natCast] at he
      rw [if_pos hn] at he
      simp at he
    · have ho : openIn key s ch d = ⟨s.take ch (num64 (d.extract 0 8).data.toList), ⟨ch, num64 (d.extract 0 8).data.toList, ((d.data.toList.getD 8 0).toNat : Int), d.extract 9 (d.size - 8)⟩, ⟨(textL (s.take ch (num64 (d.extract 0 8).data.toList))).toArray⟩, 0⟩ := by
        unfold openIn
        rw [if_neg hr]
        simp only [Int.toNat_natCast]
        rw [if_neg hn]
      rw [ho]
      have hlt := (d.data.toList.getD 8 0).toNat_lt
      have hbody : bodyL ⟨ch, num64 (d.extract 0 8).data.toList, ((d.data.toList.getD 8 0).toNat : Int), d.extract 9 (d.size - 8)⟩ = (d.extract 0 (d.size - 8)).data.toList := by
        unfold bodyL
        simp only
        rw [be8_num64 _ (by rw [extract_list]; simp; omega)]
        have e : chB ((d.data.toList.getD 8 0).toNat : Int) = d.data.toList.getD 8 0 := by unfold chB; simp
        rw [e, extract_list, extract_list, extract_list, List.drop_zero, Nat.sub_zero, Nat.sub_zero]
        exact take_parts _ _ (by omega) (by simp)
      refine ⟨⟨by simp, by simp only; omega, ?_, by simp, by simp only; omega, by simp only; rw [size_list, extract_list]; simp; omega⟩, rfl, ?_, by simp only; omega, rfl, rfl⟩
      · simp only
        intro h
        apply hn
        rw [h]; simp
      · unfold sealL
        rw [hbody]
        simp only
        have hr2 : sumL key ch (d.extract 0 (d.size - 8)).data.toList = (d.extract (d.size - 8) d.size).data.toList := by simpa using hr
        rw [hr2, extract_list, extract_list, List.drop_zero, Nat.sub_zero]
        rw [List.take_of_length_le (l := List.drop _ _) (by simp), List.take_append_drop]
end Go.Proofs.Ytincoocagfegfaa
