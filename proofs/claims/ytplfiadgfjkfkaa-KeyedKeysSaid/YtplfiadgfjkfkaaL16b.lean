/- What is proved here: the walks of five laws on keyed sums. -/
import Derived.Test.YtplfiadgfjkfkaaL16
import Derived.Test.YtplfiadgfjkfkaaKit
import Derived.Lib.IndexBytes
namespace Go.Proofs.Ytplfiadgfjkfkaa
open Go.RowKit
theorem join8 (x : BitVec 64) : (x >>> 8) <<< 8 ||| z8 (lo8 x) = x := by
  apply BitVec.eq_of_getLsbD_eq
  intro i hi
  have hz : (z8 (lo8 x)).getLsbD i = (decide (i < 8) && x.getLsbD i) := by
    unfold z8 lo8
    rw [UInt8.toNat_ofNat', BitVec.getLsbD_ofNat, show (2 : Nat) ^ 8 = 256 from rfl, Nat.mod_mod, show 256 = 2 ^ 8 from rfl, Nat.testBit_mod_two_pow, BitVec.getLsbD]
    simp [hi]
  rw [BitVec.getLsbD_or, BitVec.getLsbD_shiftLeft, BitVec.getLsbD_ushiftRight, hz]
  by_cases h : i < 8
  · simp [h]
  · rw [show 8 + (i - 8) = i by omega]; simp [h, hi]
theorem shr64 (n : BitVec 64) : n >>> 64 = 0#64 := by
  apply BitVec.eq_of_getLsbD_eq
  intro i hi
  rw [BitVec.getLsbD_ushiftRight, BitVec.getLsbD_of_ge _ _ (by omega)]; simp
theorem be8_at (n : BitVec 64) (i : Nat) (h : i < 8) : (n >>> (64 - 8 * i)) <<< 8 ||| z8 (beByte n i) = n >>> (64 - 8 * (i + 1)) := by
  have e : n >>> (64 - 8 * i) = (n >>> (8 * (7 - i))) >>> 8 := by rw [← BitVec.shiftRight_add]; congr 1; omega
  rw [e, beByte, join8]; congr 1; omega
theorem flipOf_length (l : List UInt8) (n : Int) : (flipOf l n).length = l.length := by
  unfold flipOf flipAt; split
  · simp_all
  · simp
theorem xor_bit_ne (c : UInt8) (t : Nat) (ht : t ≤ 7) : c ^^^ ((1 : UInt8) <<< UInt8.ofNat t) ≠ c := by
  intro h
  have h2 := congrArg (c ^^^ ·) h
  simp only [← UInt8.xor_assoc, UInt8.xor_self, UInt8.zero_xor] at h2
  have h3 := congrArg UInt8.toNat h2
  rw [pow_u8 t ht] at h3
  have := Nat.two_pow_pos t
  simp at h3
theorem flipOf_ne (l : List UInt8) (n : Int) (h : l ≠ []) : flipOf l n ≠ l := by
  unfold flipOf; rw [if_neg h]
  have hpos : 0 < l.length := List.length_pos_iff.2 h
  have hp := Int.emod_nonneg n (by omega : ((8 * l.length : Nat) : Int) ≠ 0)
  have hq := Int.emod_lt_of_pos n (by omega : (0 : Int) < ((8 * l.length : Nat) : Int))
  obtain ⟨k, hk⟩ : ∃ k, k = (n % (8 * l.length : Nat)).toNat := ⟨_, rfl⟩
  rw [← hk]
  have hk2 : k / 8 < l.length := by omega
  intro he
  have := congrArg (fun m => m[k / 8]?) he
  simp only [flipAt, List.getElem?_set_self hk2, List.getElem?_eq_getElem hk2, List.getD_eq_getElem?_getD, Option.getD_some] at this
  injection this with this
  exact xor_bit_ne _ _ (by omega) this
theorem be8_length (n : BitVec 64) : (be8 n).length = 8 := by simp [be8]
theorem open_seal (key s : ByteArray) (b : List UInt8) (h : s.data.toList = sealed key.data.toList b) : openV key s = .tuple #[strOf b, .int .i64 0] := by
  have hs : s.size = b.length + 8 := by rw [← ByteArray.size_data, ← Array.length_toList, h, sealed, List.length_append, be8_length]
  have e1 : s.data.toList.take (s.size - 8) = b := by
    rw [hs, h, sealed]; simp
  have e2 : openOk key s = true := by rw [openOk, e1, h]; simp
  rw [openV, if_pos e2, e1]
theorem open_spoilt (key s : ByteArray) (b c : List UInt8) (hc : c.length = 8) (h : s.data.toList = b ++ c) (hne : c ≠ be8 (keyedSum key.data.toList b)) : openV key s = .tuple #[strOf [], .int .i64 6] := by
  have hs : s.size = b.length + 8 := by rw [← ByteArray.size_data, ← Array.length_toList, h, List.length_append, hc]
  have e1 : s.data.toList.take (s.size - 8) = b := by
    rw [hs, h]; simp
  have e2 : ¬ openOk key s = true := by
    rw [openOk, e1, h, sealed]; simpa using fun e => hne e.symm
  rw [openV, if_neg e2]
theorem open_fine (key s : ByteArray) (h : openOk key s = true) : sealed key.data.toList (s.data.toList.take (s.size - 8)) = s.data.toList := by
  simpa [openOk] using h
set_option maxHeartbeats 4000000 in
theorem opens_walk (key s : ByteArray) (w : World) : Calls Try.prog 4 #[.string key, .string s] w fun e w' => e = .returned (.bool true) ∧ Below w.heap.size w w' := by
  have HL0 := Lib.hid (Below.refl w.heap.size w)
  by_cases hl : s.size ≤ 20000
  · by_cases hk : key.size = 16
    · by_cases h8 : 8 ≤ s.size
      · by_cases ho : openOk key s = true
        all_goals
          have hv : openV key s = (if openOk key s then .tuple #[strOf (s.data.toList.take (s.size - 8)), .int .i64 0] else .tuple #[strOf [], .int .i64 6]) := rfl
          first | rw [if_pos ho] at hv | rw [if_neg ho] at hv
          have HV := Lib.hid hv; clear hv ho
          have Hk := Lib.hid hk; clear hk
          go_enter Try.func4, Try.ntmps4
          go_wp2_with fail
          refine (Open_any key s _ Hk.out h8 (by omega)).mono ?_
          rw [HV.out]
          rintro e w1 ⟨rfl, hL⟩
          have HL1 := Lib.hid (HL0.out.trans (hL.mono HL0.out.size)); clear hL
          unfold strOf
          go_wp2_with fail
          refine (rOpen_any key s _ Hk.out h8 (by omega)).mono ?_
          rw [HV.out]
          rintro e w2 ⟨rfl, hL⟩
          have HL2 := Lib.hid (HL1.out.trans (hL.mono HL1.out.size)); clear hL
          unfold strOf
          go_wp2_with fail
          refine (awake_any _).mono ?_
          rintro e w3 ⟨rfl, hL⟩
          have HL3 := Lib.hid (HL2.out.trans (hL.mono HL2.out.size)); clear hL
          go_wp2_with fail
          go_ret
          exact ⟨rfl, HL3.out⟩
      · have Hk := Lib.hid hk; clear hk
        have h8 : s.size < 8 := by omega
        go_enter Try.func4, Try.ntmps4
        go_wp2_with fail
        refine (Open_short key s _ Hk.out h8).mono ?_
        rintro e w1 ⟨rfl, hL⟩
        have HL1 := Lib.hid (HL0.out.trans (hL.mono HL0.out.size)); clear hL
        unfold strOf
        go_wp2_with fail
        refine (rOpen_short key s _ Hk.out h8).mono ?_
        rintro e w2 ⟨rfl, hL⟩
        have HL2 := Lib.hid (HL1.out.trans (hL.mono HL1.out.size)); clear hL
        unfold strOf
        go_wp2_with fail
        refine (awake_any _).mono ?_
        rintro e w3 ⟨rfl, hL⟩
        have HL3 := Lib.hid (HL2.out.trans (hL.mono HL2.out.size)); clear hL
        go_wp2_with fail
        go_ret
        exact ⟨rfl, HL3.out⟩
    · have Hk := Lib.hid hk; clear hk
      go_enter Try.func4, Try.ntmps4
      go_wp2_with fail
      refine (Open_key key s _ Hk.out (by omega)).mono ?_
      rintro e w1 ⟨rfl, hL⟩
      have HL1 := Lib.hid (HL0.out.trans (hL.mono HL0.out.size)); clear hL
      unfold strOf
      go_wp2_with fail
      refine (rOpen_key key s _ Hk.out (by omega)).mono ?_
      rintro e w2 ⟨rfl, hL⟩
      have HL2 := Lib.hid (HL1.out.trans (hL.mono HL1.out.size)); clear hL
      unfold strOf
      go_wp2_with fail
      refine (awake_any _).mono ?_
      rintro e w3 ⟨rfl, hL⟩
      have HL3 := Lib.hid (HL2.out.trans (hL.mono HL2.out.size)); clear hL
      go_wp2_with fail
      go_ret
      exact ⟨rfl, HL3.out⟩
  · skip
    go_enter Try.func4, Try.ntmps4
    go_wp2_with fail
    refine (awake_any _).mono ?_
    rintro e w1 ⟨rfl, hL⟩
    have HL1 := Lib.hid (HL0.out.trans (hL.mono HL0.out.size)); clear hL
    go_wp2_with fail
    go_ret
    exact ⟨rfl, HL1.out⟩
set_option maxHeartbeats 4000000 in
theorem round_walk (key b : ByteArray) (at_ : Int) (h3 : -9223372036854775808 ≤ at_) (h4 : at_ ≤ 9223372036854775807) (w : World) : Calls Try.prog 5 #[.string key, .string b, .int .i64 at_] w fun e w' => e = .returned (.bool true) ∧ Below w.heap.size w w' := by
  have HL0 := Lib.hid (Below.refl w.heap.size w)
  by_cases hl : b.size ≤ 20000
  · by_cases hk : key.size = 16
    · have hk1 : ((key.size : Int) != 16) = false := by rw [hk]; rfl
      have hl1 : decide ((20000 : Int) < (b.size : Int)) = false := by simp; omega
      have Hk := Lib.hid hk; clear hk
      go_enter Try.func5, Try.ntmps5
      go_wp2_with fail
      refine (Seal_ok key b _ Hk.out (by omega)).mono ?_
      obtain ⟨n, hn⟩ : ∃ n, n = keyedSum key.data.toList b.data.toList := ⟨_, rfl⟩
      rw [← hn]
      obtain ⟨s, hs, hsl, hss⟩ := strOf_is (b.data.toList ++ be8 n)
      rw [hs]
      rintro e w1 ⟨rfl, hL⟩
      have HL1 := Lib.hid (HL0.out.trans (hL.mono HL0.out.size)); clear hL
      have hss1 : s.size = b.size + 8 := by rw [hss, List.length_append, be8_length]; simp
      have hv : openV key s = .tuple #[strOf b.data.toList, .int .i64 0] := open_seal key s _ (by rw [hsl, hn]; rfl)
      have hx1 : (s.extract 0 b.size).data.toList = b.data.toList := by simp [hsl]
      have hx2 : (s.extract b.size s.size).data.toList = be8 n := by rw [Lib.extract_to_end, hsl]; simp
      have hx0 : s.extract 0 b.size = b := by apply ByteArray.ext; apply Array.ext'; exact hx1
      have hb1 : (b.size : Int) ≤ (s.size : Int) := by omega
      have hb2 : ((s.size : Int) != (b.size : Int) + 8) = false := by rw [hss1]; simp
      have hs8 : 8 ≤ s.size := by omega
      have hs9 : s.size ≤ 140737488355000 := by omega
      have hq1 : (s.extract b.size s.size).size = 8 := by rw [← ByteArray.size_data, ← Array.length_toList, hx2, be8_length]
      have hq2 : (s.extract b.size s.size).size ≤ 1000000000 := by rw [hq1]; decide
      have HV := Lib.hid hv; have HX2 := Lib.hid hx2; have HN := Lib.hid hn; have HX0 := Lib.hid hx0; have HQ1 := Lib.hid hq1; have HSS := Lib.hid hss1
      clear hv hx1 hx2 hn hs hsl hss hx0 hq1 hss1
      go_wp2_with fail
      refine (Open_any key s _ Hk.out hs8 hs9).mono ?_
      rw [HV.out, show strOf b.data.toList = .string b from (str_of b).symm]
      rintro e w2 ⟨rfl, hL⟩
      have HL2 := Lib.hid (HL1.out.trans (hL.mono HL1.out.size)); clear hL
      have hx0 := HX0.out
      go_wp2_with fail
      refine (flip_any (s.extract b.size s.size) at_ _ hq2 h3 h4).mono ?_
      rw [HX2.out]
      obtain ⟨c, hc⟩ : ∃ c, c = flipOf (be8 n) at_ := ⟨_, rfl⟩
      rw [← hc]
      have hcl : c.length = 8 := by rw [hc, flipOf_length, be8_length]
      have hcn : c ≠ be8 n := by rw [hc]; exact flipOf_ne _ _ (by intro e; have := congrArg List.length e; rw [be8_length] at this; cases this)
      obtain ⟨t, ht, htl, hts⟩ := strOf_is c
      rw [ht]
      have hbt : (b ++ t).data.toList = b.data.toList ++ c := by simp [htl]
      have hbs : (b ++ t).size = b.size + 8 := by rw [← ByteArray.size_data, ← Array.length_toList, hbt, List.length_append, hcl]; simp
      have hv2 : openV key (b ++ t) = .tuple #[strOf [], .int .i64 6] := open_spoilt key _ b.data.toList c hcl hbt (by rw [← HN.out]; exact hcn)
      have hb8 : 8 ≤ (b ++ t).size := by omega
      have hb9 : (b ++ t).size ≤ 140737488355000 := by omega
      have htz : t.size ≤ 8 := by rw [hts, hcl]; exact Nat.le_refl _
      have HV2 := Lib.hid hv2
      clear hc hcl hcn ht htl hts hbt hbs hv2 hx0
      rintro e w3 ⟨rfl, hL⟩
      have HL3 := Lib.hid (HL2.out.trans (hL.mono HL2.out.size)); clear hL
      go_wp2_with fail
      refine (Open_any key (b ++ t) _ Hk.out hb8 hb9).mono ?_
      rw [HV2.out]
      rintro e w4 ⟨rfl, hL⟩
      have HL4 := Lib.hid (HL3.out.trans (hL.mono HL3.out.size)); clear hL
      unfold strOf
      go_wp2_with fail
      refine (awake_any _).mono ?_
      rintro e w5 ⟨rfl, hL⟩
      have HL5 := Lib.hid (HL4.out.trans (hL.mono HL4.out.size)); clear hL
      go_wp2_with fail
      go_ret
      exact ⟨rfl, HL5.out⟩
    · have hk1 : ((key.size : Int) != 16) = true := by rw [bne_iff_ne]; omega
      have hl1 : decide ((20000 : Int) < (b.size : Int)) = false := by simp; omega
      clear hk
      go_enter Try.func5, Try.ntmps5
      go_wp2_with fail
      refine (awake_any _).mono ?_
      rintro e w1 ⟨rfl, hL⟩
      have HL1 := Lib.hid (HL0.out.trans (hL.mono HL0.out.size)); clear hL
      go_wp2_with fail
      go_ret
      exact ⟨rfl, HL1.out⟩
  · have hl1 : decide ((20000 : Int) < (b.size : Int)) = true := by simp; omega
    go_enter Try.func5, Try.ntmps5
    go_wp2_with fail
    refine (awake_any _).mono ?_
    rintro e w1 ⟨rfl, hL⟩
    have HL1 := Lib.hid (HL0.out.trans (hL.mono HL0.out.size)); clear hL
    go_wp2_with fail
    go_ret
    exact ⟨rfl, HL1.out⟩
set_option maxHeartbeats 4000000 in
theorem sealed_walk (key s : ByteArray) (w : World) : Calls Try.prog 6 #[.string key, .string s] w fun e w' => e = .returned (.bool true) ∧ Below w.heap.size w w' := by
  have HL0 := Lib.hid (Below.refl w.heap.size w)
  by_cases hl : s.size ≤ 20000
  · by_cases hk : key.size = 16
    · by_cases h8 : 8 ≤ s.size
      · by_cases ho : openOk key s = true
        · have hv : openV key s = .tuple #[strOf (s.data.toList.take (s.size - 8)), .int .i64 0] := by rw [openV, if_pos ho]
          obtain ⟨b, hb, hbl, hbs⟩ := strOf_is (s.data.toList.take (s.size - 8))
          rw [hb] at hv
          have hb9 : b.size ≤ 140737488355000 := by rw [hbs]; simp; omega
          have hs2 : strOf (b.data.toList ++ be8 (keyedSum key.data.toList b.data.toList)) = .string s := by
            rw [hbl]; have := open_fine key s ho; rw [sealed] at this; rw [this]; exact (str_of s).symm
          have HV := Lib.hid hv; have HS2 := Lib.hid hs2
          have Hk := Lib.hid hk; clear hk hv ho hb hbl hbs hs2
          go_enter Try.func6, Try.ntmps6
          go_wp2_with fail
          refine (Open_any key s _ Hk.out h8 (by omega)).mono ?_
          rw [HV.out]
          rintro e w1 ⟨rfl, hL⟩
          have HL1 := Lib.hid (HL0.out.trans (hL.mono HL0.out.size)); clear hL
          go_wp2_with fail
          refine (Seal_ok key b _ Hk.out hb9).mono ?_
          rw [HS2.out]
          rintro e w2 ⟨rfl, hL⟩
          have HL2 := Lib.hid (HL1.out.trans (hL.mono HL1.out.size)); clear hL
          go_wp2_with fail
          refine (awake_any _).mono ?_
          rintro e w3 ⟨rfl, hL⟩
          have HL3 := Lib.hid (HL2.out.trans (hL.mono HL2.out.size)); clear hL
          go_wp2_with fail
          go_ret
          exact ⟨rfl, HL3.out⟩
        · have hv : openV key s = .tuple #[strOf [], .int .i64 6] := by rw [openV, if_neg ho]
          have HV := Lib.hid hv
          have Hk := Lib.hid hk; clear hk hv ho
          go_enter Try.func6, Try.ntmps6
          go_wp2_with fail
          refine (Open_any key s _ Hk.out h8 (by omega)).mono ?_
          rw [HV.out]
          rintro e w1 ⟨rfl, hL⟩
          have HL1 := Lib.hid (HL0.out.trans (hL.mono HL0.out.size)); clear hL
          unfold strOf
          go_wp2_with fail
          refine (awake_any _).mono ?_
          rintro e w2 ⟨rfl, hL⟩
          have HL2 := Lib.hid (HL1.out.trans (hL.mono HL1.out.size)); clear hL
          go_wp2_with fail
          go_ret
          exact ⟨rfl, HL2.out⟩
      · have Hk := Lib.hid hk; clear hk
        have h8 : s.size < 8 := by omega
        go_enter Try.func6, Try.ntmps6
        go_wp2_with fail
        refine (Open_short key s _ Hk.out h8).mono ?_
        rintro e w1 ⟨rfl, hL⟩
        have HL1 := Lib.hid (HL0.out.trans (hL.mono HL0.out.size)); clear hL
        unfold strOf
        go_wp2_with fail
        refine (awake_any _).mono ?_
        rintro e w2 ⟨rfl, hL⟩
        have HL2 := Lib.hid (HL1.out.trans (hL.mono HL1.out.size)); clear hL
        go_wp2_with fail
        go_ret
        exact ⟨rfl, HL2.out⟩
    · have Hk := Lib.hid hk; clear hk
      go_enter Try.func6, Try.ntmps6
      go_wp2_with fail
      refine (Open_key key s _ Hk.out (by omega)).mono ?_
      rintro e w1 ⟨rfl, hL⟩
      have HL1 := Lib.hid (HL0.out.trans (hL.mono HL0.out.size)); clear hL
      unfold strOf
      go_wp2_with fail
      refine (awake_any _).mono ?_
      rintro e w2 ⟨rfl, hL⟩
      have HL2 := Lib.hid (HL1.out.trans (hL.mono HL1.out.size)); clear hL
      go_wp2_with fail
      go_ret
      exact ⟨rfl, HL2.out⟩
  · skip
    go_enter Try.func6, Try.ntmps6
    go_wp2_with fail
    refine (awake_any _).mono ?_
    rintro e w1 ⟨rfl, hL⟩
    have HL1 := Lib.hid (HL0.out.trans (hL.mono HL0.out.size)); clear hL
    go_wp2_with fail
    go_ret
    exact ⟨rfl, HL1.out⟩
set_option maxHeartbeats 4000000 in
theorem keys_walk (key b : ByteArray) (w : World) : Calls Try.prog 8 #[.string key, .string b] w fun e w' => e = .returned (.bool true) ∧ Below w.heap.size w w' := by
  have HL0 := Lib.hid (Below.refl w.heap.size w)
  by_cases hl : key.size ≤ 2000
  · have hl1 : decide ((2000 : Int) < (key.size : Int)) = false := by simp; omega
    by_cases hm : b.size ≤ 2000
    · have hm1 : decide ((2000 : Int) < (b.size : Int)) = false := by simp; omega
      by_cases hk : key.size = 16
      · have hk1 : ((key.size : Int) != 16) = false := by rw [hk]; rfl
        by_cases h8 : 8 ≤ b.size
        · by_cases ho : openOk key b = true
          all_goals
            have hv : openV key b = (if openOk key b then .tuple #[strOf (b.data.toList.take (b.size - 8)), .int .i64 0] else .tuple #[strOf [], .int .i64 6]) := rfl
            first | rw [if_pos ho] at hv | rw [if_neg ho] at hv
            have HV := Lib.hid hv; clear hv ho
            have Hk := Lib.hid hk; clear hk
            go_enter Try.func8, Try.ntmps8
            go_wp2_with fail
            refine (Sum_ok key b _ Hk.out (by omega)).mono ?_
            rintro e w1 ⟨rfl, hL⟩
            have HL1 := Lib.hid (HL0.out.trans (hL.mono HL0.out.size)); clear hL
            go_wp2_with fail
            refine (Seal_ok key b _ Hk.out (by omega)).mono ?_
            rintro e w2 ⟨rfl, hL⟩
            have HL2 := Lib.hid (HL1.out.trans (hL.mono HL1.out.size)); clear hL
            unfold strOf
            go_wp2_with fail
            refine (Open_any key b _ Hk.out h8 (by omega)).mono ?_
            rw [HV.out]
            rintro e w3 ⟨rfl, hL⟩
            have HL3 := Lib.hid (HL2.out.trans (hL.mono HL2.out.size)); clear hL
            unfold strOf
            go_wp2_with fail
            refine (awake_any _).mono ?_
            rintro e w4 ⟨rfl, hL⟩
            have HL4 := Lib.hid (HL3.out.trans (hL.mono HL3.out.size)); clear hL
            go_wp2_with fail
            go_ret
            exact ⟨rfl, HL4.out⟩
        · have Hk := Lib.hid hk; clear hk
          have h8 : b.size < 8 := by omega
          go_enter Try.func8, Try.ntmps8
          go_wp2_with fail
          refine (Sum_ok key b _ Hk.out (by omega)).mono ?_
          rintro e w1 ⟨rfl, hL⟩
          have HL1 := Lib.hid (HL0.out.trans (hL.mono HL0.out.size)); clear hL
          go_wp2_with fail
          refine (Seal_ok key b _ Hk.out (by omega)).mono ?_
          rintro e w2 ⟨rfl, hL⟩
          have HL2 := Lib.hid (HL1.out.trans (hL.mono HL1.out.size)); clear hL
          unfold strOf
          go_wp2_with fail
          refine (Open_short key b _ Hk.out h8).mono ?_
          rintro e w3 ⟨rfl, hL⟩
          have HL3 := Lib.hid (HL2.out.trans (hL.mono HL2.out.size)); clear hL
          unfold strOf
          go_wp2_with fail
          refine (awake_any _).mono ?_
          rintro e w4 ⟨rfl, hL⟩
          have HL4 := Lib.hid (HL3.out.trans (hL.mono HL3.out.size)); clear hL
          go_wp2_with fail
          go_ret
          exact ⟨rfl, HL4.out⟩
      · have hk1 : ((key.size : Int) != 16) = true := by rw [bne_iff_ne]; omega
        have Hk := Lib.hid hk; clear hk
        go_enter Try.func8, Try.ntmps8
        go_wp2_with fail
        refine (Sum_bad key b _ Hk.out).mono ?_
        rintro e w1 ⟨rfl, hL⟩
        have HL1 := Lib.hid (HL0.out.trans (hL.mono HL0.out.size)); clear hL
        go_wp2_with fail
        refine (Seal_bad key b _ Hk.out).mono ?_
        rintro e w2 ⟨rfl, hL⟩
        have HL2 := Lib.hid (HL1.out.trans (hL.mono HL1.out.size)); clear hL
        unfold strOf
        go_wp2_with fail
        refine (Open_key key b _ Hk.out (by omega)).mono ?_
        rintro e w3 ⟨rfl, hL⟩
        have HL3 := Lib.hid (HL2.out.trans (hL.mono HL2.out.size)); clear hL
        unfold strOf
        go_wp2_with fail
        refine (awake_any _).mono ?_
        rintro e w4 ⟨rfl, hL⟩
        have HL4 := Lib.hid (HL3.out.trans (hL.mono HL3.out.size)); clear hL
        go_wp2_with fail
        go_ret
        exact ⟨rfl, HL4.out⟩
    · have hm1 : decide ((2000 : Int) < (b.size : Int)) = true := by simp; omega
      go_enter Try.func8, Try.ntmps8
      go_wp2_with fail
      refine (awake_any _).mono ?_
      rintro e w1 ⟨rfl, hL⟩
      have HL1 := Lib.hid (HL0.out.trans (hL.mono HL0.out.size)); clear hL
      go_wp2_with fail
      go_ret
      exact ⟨rfl, HL1.out⟩
  · have hl1 : decide ((2000 : Int) < (key.size : Int)) = true := by simp; omega
    go_enter Try.func8, Try.ntmps8
    go_wp2_with fail
    refine (awake_any _).mono ?_
    rintro e w1 ⟨rfl, hL⟩
    have HL1 := Lib.hid (HL0.out.trans (hL.mono HL0.out.size)); clear hL
    go_wp2_with fail
    go_ret
    exact ⟨rfl, HL1.out⟩
set_option maxHeartbeats 4000000 in
theorem bytes_walk (key b : ByteArray) (w : World) : Calls Try.prog 7 #[.string key, .string b] w fun e w' => e = .returned (.bool true) ∧ Below w.heap.size w w' := by
  have HL0 := Lib.hid (Below.refl w.heap.size w)
  by_cases hl : b.size ≤ 20000
  · have hl1 : decide ((20000 : Int) < (b.size : Int)) = false := by simp; omega
    by_cases hk : key.size = 16
    · have hk1 : ((key.size : Int) != 16) = false := by rw [hk]; rfl
      have Hk := Lib.hid hk; clear hk
      go_enter Try.func7, Try.ntmps7
      go_wp2_with fail
      refine (Sum_ok key b _ Hk.out (by omega)).mono ?_
      obtain ⟨n, hn⟩ : ∃ n, n = keyedSum key.data.toList b.data.toList := ⟨_, rfl⟩
      rw [← hn]
      have HN := Lib.hid hn; clear hn
      rintro e w1 ⟨rfl, hL⟩
      have HL1 := Lib.hid (HL0.out.trans (hL.mono HL0.out.size)); clear hL
      go_wp2_with fail
      refine (Sum_ok key b _ Hk.out (by omega)).mono ?_
      rw [← HN.out]
      rintro e w2 ⟨rfl, hL⟩
      have HL2 := Lib.hid (HL1.out.trans (hL.mono HL1.out.size)); clear hL
      go_wp2_with fail
      refine (Seal_ok key b _ Hk.out (by omega)).mono ?_
      rw [← HN.out]
      obtain ⟨s, hs, hsl, hss⟩ := strOf_is (b.data.toList ++ be8 n)
      rw [hs]
      have hss1 : s.size = b.size + 8 := by rw [hss, List.length_append, be8_length]; simp
      have hsat : ∀ i : Nat, (h : i < 8) → ∀ h2 : b.size + i < s.size, s[b.size + i] = beByte n i := by
        intro i h h2
        have e : s[b.size + i] = s.data.toList[b.size + i]'(by simpa using h2) := by simp; rfl
        rw [e]; simp [hsl, List.getElem_append_right, be8]
      have hb2 : ((s.size : Int) != (b.size : Int) + 8) = false := by rw [hss1]; simp
      have hs1 : s.size ≤ b.size + 8 := by omega
      have hs2 : b.size + 8 ≤ s.size := by omega
      have HSAT := Lib.hid hsat; clear hsat hs hsl hss hss1
      rintro e w3 ⟨rfl, hL⟩
      have HL3 := Lib.hid (HL2.out.trans (hL.mono HL2.out.size)); clear hL
      go_wp2_with fail
      go_loopw [11, 12] (fun t i wr => ∃ k : Nat, k ≤ 8 ∧ i = .int .i64 k ∧ t = .int .u64 (w64 (n >>> (64 - 8 * k))) ∧ Below w.heap.size w wr) (fun _ i _ => (8 - intOf i).toNat)
      case atStart => exact ⟨0, Nat.zero_le _, rfl, by rw [show n >>> (64 - 8 * 0) = 0#64 from shr64 n]; rfl, HL3.out⟩
      case round =>
        obtain ⟨k, hk, rfl, rfl, hL⟩ := hrel
        have HL4 := Lib.hid hL; clear hL
        by_cases hlt : k < 8
        · go_wp2_with fail
          go_roundw
          case rel => exact ⟨k + 1, by omega, by go_num, by rw [HSAT.out k hlt (by omega), be8_at n k hlt], HL4.out⟩
          case measure => simp [intOf]; omega
        · obtain rfl : k = 8 := by omega
          have e8 : n >>> (64 - 8 * 8) = n := by simp
          rw [e8]
          go_wp2_with fail
          refine (awake_any _).mono ?_
          rintro e w5 ⟨rfl, hL⟩
          have HL5 := Lib.hid (HL4.out.trans (hL.mono HL4.out.size)); clear hL
          go_wp2_with fail
          go_ret
          exact ⟨rfl, HL5.out⟩
    · have hk1 : ((key.size : Int) != 16) = true := by rw [bne_iff_ne]; omega
      clear hk
      go_enter Try.func7, Try.ntmps7
      go_wp2_with fail
      refine (awake_any _).mono ?_
      rintro e w1 ⟨rfl, hL⟩
      have HL1 := Lib.hid (HL0.out.trans (hL.mono HL0.out.size)); clear hL
      go_wp2_with fail
      go_ret
      exact ⟨rfl, HL1.out⟩
  · have hl1 : decide ((20000 : Int) < (b.size : Int)) = true := by simp; omega
    go_enter Try.func7, Try.ntmps7
    go_wp2_with fail
    refine (awake_any _).mono ?_
    rintro e w1 ⟨rfl, hL⟩
    have HL1 := Lib.hid (HL0.out.trans (hL.mono HL0.out.size)); clear hL
    go_wp2_with fail
    go_ret
    exact ⟨rfl, HL1.out⟩
end Go.Proofs.Ytplfiadgfjkfkaa
