/- What is proved here: the walk of the law CrcOpens. -/
import Derived.Test.YtdahabokhmgplaaL3
import Derived.Test.YtdahabokhmgplaaCrc3
set_option linter.unusedVariables false
set_option linter.unusedSimpArgs false
namespace Go.Proofs.Ytdahabokhmgplaa
open Go.RowKit
theorem loB_shl (r : BitVec 16) : loB ((r <<< 8) >>> 8) = loB r := by
  unfold loB; congr 1
  rw [BitVec.toNat_ushiftRight, BitVec.toNat_shiftLeft, Nat.shiftLeft_eq, Nat.shiftRight_eq_div_pow]
  omega
theorem code_zero (r : BitVec 16) : next16 r (crcBytes r) = 0#16 := by
  have h8 : ∀ x : BitVec 16, x ^^^ tab16 (0 : UInt8).toNat = x := by
    intro x; rw [show tab16 (0 : UInt8).toNat = 0#16 by decide +kernel, BitVec.xor_zero]
  rw [crcBytes, next16_cons, UInt8.xor_self, h8, next16_cons, loB_shl, UInt8.xor_self, h8, next16_nil, ← BitVec.shiftLeft_add]
  apply BitVec.eq_of_getLsbD_eq; intro i hi; simp
theorem closed_zero (l : List UInt8) : sum16 (closed l) = 0#16 := by
  rw [closed, sum16, next16_append]; exact code_zero _
theorem closed_length (l : List UInt8) : (closed l).length = l.length + 2 := by simp [closed, crcBytes]
theorem flip_len (l : List UInt8) (n : Int) : (flipOf l n).length = l.length := by
  unfold flipOf flipAt; split
  · simp_all
  · simp
theorem xor_one_ne (c : UInt8) (t : Nat) (ht : t ≤ 7) : c ^^^ ((1 : UInt8) <<< UInt8.ofNat t) ≠ c := by
  intro h
  have h2 := congrArg (c ^^^ ·) h
  simp only [← UInt8.xor_assoc, UInt8.xor_self, UInt8.zero_xor] at h2
  have h3 := congrArg UInt8.toNat h2
  rw [pow_u8 t ht] at h3
  have := Nat.two_pow_pos t
  simp at h3
theorem flip_ne (l : List UInt8) (n : Int) (h : l ≠ []) : flipOf l n ≠ l ∧ ∃ k, flipOf l n = flipAt l k := by
  unfold flipOf; rw [if_neg h]
  refine ⟨?_, _, rfl⟩
  have hpos : 0 < l.length := List.length_pos_iff.2 h
  have hp := Int.emod_nonneg n (by omega : ((8 * l.length : Nat) : Int) ≠ 0)
  have hq := Int.emod_lt_of_pos n (by omega : (0 : Int) < ((8 * l.length : Nat) : Int))
  obtain ⟨k, hk⟩ : ∃ k, k = (n % (8 * l.length : Nat)).toNat := ⟨_, rfl⟩
  rw [← hk]
  have hk2 : k / 8 < l.length := by omega
  intro he
  have := congrArg (fun m => m[k / 8]?) he
  simp only [flipAt, List.getElem?_set_self hk2, List.getElem?_eq_getElem hk2, List.getD_eq_getElem?_getD, Option.getD_some] at this
  injection this with this
  exact xor_one_ne _ _ (by omega) this
theorem open_closed (s : ByteArray) (l : List UInt8) (h : s.data.toList = closed l) : open16V s = .tuple #[strOf l, .int .i64 0] := by
  have hs : s.size = l.length + 2 := by rw [← ByteArray.size_data, ← Array.length_toList, h, closed_length]
  have e1 : s.data.toList.take (s.size - 2) = l := by rw [hs, h, closed]; simp
  have e2 : opens s = true := by rw [opens, e1, h]; simp; omega
  rw [open16V, if_pos e2, e1]
theorem open_flipped (s : ByteArray) (l : List UInt8) (n : Int) (h : s.data.toList = flipOf (closed l) n) : open16V s = .tuple #[strOf [], .int .i64 6] := by
  have hne : closed l ≠ [] := by intro e; have := congrArg List.length e; rw [closed_length] at this; cases this
  obtain ⟨h1, k, hk⟩ := flip_ne (closed l) n hne
  have e2 : ¬ opens s = true := by
    intro ho
    rw [opens, Bool.and_eq_true, beq_iff_eq] at ho
    have hc := ho.2
    rw [h] at hc
    refine h1 ?_
    have hz : next16 0xffff#16 (flipOf (closed l) n) = next16 0xffff#16 (closed l) := by
      have a := closed_zero l
      have b := closed_zero ((flipOf (closed l) n).take (s.size - 2))
      rw [hc] at b
      exact b.trans a.symm
    exact burst16 _ _ (flip_len _ _) k (fun p hp => by rw [hk]; exact flipAt_bit _ _ _ (by omega)) _ hz
  rw [open16V, if_neg e2]
set_option maxHeartbeats 4000000 in
theorem opens_walk (b : ByteArray) (at_ : Int) (h3 : -9223372036854775808 ≤ at_) (h4 : at_ ≤ 9223372036854775807) (w : World) : Calls Try.prog 7 #[.string b, .int .i64 at_] w fun e w' => e = .returned (.bool true) ∧ Below w.heap.size w w' := by
  have HL0 := Lib.hid (Below.refl w.heap.size w)
  by_cases hl : b.size ≤ 5000
  · obtain ⟨s, hs, hsl, hss⟩ := strOf_is (closed b.data.toList)
    have hss1 : s.size ≤ 5002 := by rw [hss, closed_length]; simp; omega
    have ho := open_closed s _ hsl
    have HS := Lib.hid hs; have HSL := Lib.hid hsl; have HO := Lib.hid ho
    clear hs hsl hss ho
    by_cases hb : opens b = true
    all_goals
      have hv : open16V b = (if opens b then .tuple #[strOf (b.data.toList.take (b.size - 2)), .int .i64 0] else .tuple #[strOf [], .int .i64 6]) := rfl
      first | rw [if_pos hb] at hv | rw [if_neg hb] at hv
      have HV := Lib.hid hv; clear hv hb
      go_enter Try.func7, Try.ntmps7
      go_wp2_with fail
      refine (Close16_any b _ (by omega)).mono ?_
      rw [HS.out]
      rintro e w1 ⟨rfl, hL⟩
      have HL1 := Lib.hid (HL0.out.trans (hL.mono HL0.out.size)); clear hL
      go_wp2_with fail
      refine (Open16_any s _ (by omega)).mono ?_
      rw [HO.out, show strOf b.data.toList = .string b from (str_of b).symm]
      rintro e w2 ⟨rfl, hL⟩
      have HL2 := Lib.hid (HL1.out.trans (hL.mono HL1.out.size)); clear hL
      go_wp2_with fail
      refine (Open16_any b _ (by omega)).mono ?_
      rw [HV.out]
      rintro e w3 ⟨rfl, hL⟩
      have HL3 := Lib.hid (HL2.out.trans (hL.mono HL2.out.size)); clear hL
      unfold strOf
      go_wp2_with fail
      refine (rOpen16 b _ (by omega)).mono ?_
      rw [HV.out]
      rintro e w4 ⟨rfl, hL⟩
      have HL4 := Lib.hid (HL3.out.trans (hL.mono HL3.out.size)); clear hL
      unfold strOf
      go_wp2_with fail
      refine (rClose16 b _ (by omega)).mono ?_
      rw [HS.out]
      rintro e w5 ⟨rfl, hL⟩
      have HL5 := Lib.hid (HL4.out.trans (hL.mono HL4.out.size)); clear hL
      go_wp2_with fail
      refine (flip_any s at_ _ (by omega) h3 h4).mono ?_
      rw [HSL.out]
      obtain ⟨t, ht, htl, hts⟩ := strOf_is (flipOf (closed b.data.toList) at_)
      rw [ht]
      have hts1 : t.size ≤ 5002 := by rw [hts, flip_len, closed_length]; simp; omega
      have HT := Lib.hid (open_flipped t _ _ htl)
      clear ht htl hts
      rintro e w6 ⟨rfl, hL⟩
      have HL6 := Lib.hid (HL5.out.trans (hL.mono HL5.out.size)); clear hL
      go_wp2_with fail
      refine (Open16_any t _ (by omega)).mono ?_
      rw [HT.out]
      rintro e w7 ⟨rfl, hL⟩
      have HL7 := Lib.hid (HL6.out.trans (hL.mono HL6.out.size)); clear hL
      unfold strOf
      go_wp2_with fail
      refine (awake_any _).mono ?_
      rintro e w8 ⟨rfl, hL⟩
      have HL8 := Lib.hid (HL7.out.trans (hL.mono HL7.out.size)); clear hL
      go_wp2_with fail
      go_ret
      exact ⟨rfl, HL8.out⟩
  · skip
    go_enter Try.func7, Try.ntmps7
    go_wp2_with fail
    refine (awake_any _).mono ?_
    rintro e w1 ⟨rfl, hL⟩
    have HL1 := Lib.hid (HL0.out.trans (hL.mono HL0.out.size)); clear hL
    go_wp2_with fail
    go_ret
    exact ⟨rfl, HL1.out⟩
end Go.Proofs.Ytdahabokhmgplaa
