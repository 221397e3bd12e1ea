/- What is proved here: walks of number and rest of the reference of units. -/
import Derived.Test.YtkpgenmlpkfokaaN25
import Derived.Test.YtkpgenmlpkfokaaN18
set_option linter.unusedVariables false
set_option linter.unusedSimpArgs false
namespace Go.Proofs.Ytkpgenmlpkfokaa
open Go.RowKit
/-- The number that bytes are; 0 if there are too few. -/
def vnum (b : ByteArray) (a m : Nat) : Nat := if a + m ≤ b.size then numN ((b.data.toList.drop a).take m) else 0
def vrst (b : ByteArray) (n : Nat) : ByteArray := b.extract (min n b.size) b.size
theorem numN_le4 (l : List UInt8) (m : Nat) (h : l.length ≤ m) (hm : m ≤ 4) : numN l < 4294967296 := by
  refine Nat.lt_of_lt_of_le (numN_lt l) ?_
  have : 256 ^ l.length ≤ 256 ^ 4 := Nat.pow_le_pow_right (by omega) (by omega)
  exact Nat.le_trans this (by decide)
theorem vnum_lt (b : ByteArray) (a m : Nat) (hm : m ≤ 4) : vnum b a m < 4294967296 := by
  unfold vnum
  split
  · exact numN_le4 _ m (by rw [List.length_take]; omega) hm
  · omega
set_option maxHeartbeats 4000000 in
set_option maxRecDepth 100000 in
theorem vnumber_any (b : ByteArray) (a m : Nat) (w : World) (hb : b.size ≤ 1000000) (ha : a ≤ 1000000) (hm : m ≤ 4) : Calls Try.prog 35 #[.string b, .int .i64 (a : Int), .int .i64 (m : Int)] w fun e w' => e = .returned (.int .i64 (vnum b a m : Int)) ∧ w = w' := by
  by_cases h : a + m ≤ b.size
  case neg =>
    have HV := Lib.hid (show vnum b a m = 0 by rw [vnum, if_neg h])
    have d1 : ¬ ((a : Int) + (m : Int) ≤ (b.size : Int)) := by omega
    by_cases hm0 : m = 0
    · obtain rfl := hm0
      go_enter Try.func35, Try.ntmps35
      go_wp2_with fail
      go_loopg [7, 8] 1 (fun r nv iv wr => nv = .int .i64 0 ∧ iv = .int .i64 (a : Int) ∧ w = wr)
      case atStart => exact ⟨rfl, rfl, rfl⟩
      case round =>
        obtain ⟨rfl, rfl, rfl⟩ := hrel
        go_wp2_with fail
        go_ret
        exact ⟨by rw [HV.out]; rfl, rfl⟩
    · have d2 : (a : Int) < (a : Int) + (m : Int) := by omega
      go_enter Try.func35, Try.ntmps35
      go_wp2_with fail
      go_loopg [7, 8] 1 (fun r nv iv wr => nv = .int .i64 0 ∧ iv = .int .i64 (a : Int) ∧ w = wr)
      case atStart => exact ⟨rfl, rfl, rfl⟩
      case round =>
        obtain ⟨rfl, rfl, rfl⟩ := hrel
        go_wp2_with fail
        go_ret
        exact ⟨by rw [HV.out]; rfl, rfl⟩
  obtain ⟨l, hl⟩ : ∃ l, l = (b.data.toList.drop a).take m := ⟨_, rfl⟩
  have hll : l.length = m := by rw [hl, List.length_take, List.length_drop, ← size_list]; omega
  have HV := Lib.hid (show vnum b a m = numN l by rw [vnum, if_pos h, hl])
  have HL := Lib.hid hl
  have HLL := Lib.hid hll
  clear hl hll
  go_enter Try.func35, Try.ntmps35
  go_wp2_with fail
  go_loopg [7, 8] m (fun r nv iv wr => ∃ k d : Nat, k ≤ m ∧ r = m - k ∧ Hid (d = numN (l.take k)) ∧ nv = .int .i64 (d : Int) ∧ iv = .int .i64 ((a : Int) + (k : Int)) ∧ w = wr)
  case atStart => exact ⟨0, 0, by omega, by omega, Lib.hid rfl, rfl, by simp, rfl⟩
  case round =>
    obtain ⟨k, d, hk, hr, hd, rfl, rfl, rfl⟩ := hrel
    have HR := Lib.hid hr
    clear hr
    by_cases hlt : k < m
    · have hkl : k < l.length := by have := HLL.out; omega
      have hget : l[k] = b[a + k]'(by omega) := by
        have : l[k] = b.data.toList[a + k]'(by rw [← size_list]; omega) := by simp [HL.out]
        rw [this]; rfl
      have HST := Lib.hid (show numN (l.take (k + 1)) = numN (l.take k) * 256 + (l[k]).toNat by rw [List.take_succ_eq_append_getElem hkl, numN_snoc])
      have hdl : d < 4294967296 := by rw [hd.out]; exact numN_le4 _ 4 (by rw [List.length_take]; omega) (by omega)
      have d2 : (a : Int) + (k : Int) < (a : Int) + (m : Int) := by omega
      have hab : (a : Int) + (k : Int) < (b.size : Int) := by omega
      have hab0 : 0 ≤ (a : Int) + (k : Int) := by omega
      have htn : ((a : Int) + (k : Int)).toNat = a + k := by omega
      obtain ⟨c, hc⟩ : ∃ c, c = l[k] := ⟨_, rfl⟩
      rw [← hc] at hget HST
      have hcl := c.toNat_lt
      have hgt : b[a + k]'(by omega) = c := hget.symm
      clear hget hc
      go_wp2_with fail
      go_roundg (m - (k + 1))
      case measure => have := HR.out; omega
      case rel => exact ⟨k + 1, d * 256 + c.toNat, by omega, rfl, Lib.hid (by rw [HST.out, ← hd.out]), by go_num, by go_num, rfl⟩
    · obtain rfl : k = m := by omega
      have d2 : ¬ ((a : Int) + (k : Int) < (a : Int) + (k : Int)) := by omega
      go_wp2_with fail
      go_ret
      refine ⟨?_, rfl⟩
      have e1 : l.take k = l := List.take_of_length_le (by have := HLL.out; omega)
      rw [HV.out, ← e1, ← hd.out]; rfl
set_option maxHeartbeats 4000000 in
set_option maxRecDepth 100000 in
theorem vrest_any (b : ByteArray) (n : Nat) (w : World) (hb : b.size ≤ 1000000) (hn : n ≤ 1000000) : Calls Try.prog 36 #[.string b, .int .i64 (n : Int)] w fun e w' => e = .returned (.string (vrst b n)) ∧ w = w' := by
  by_cases h : n ≤ b.size
  · have HQ := Lib.hid (show vrst b n = b.extract n b.size by rw [vrst, Nat.min_eq_left h])
    have hd : ¬ b.size < n := by omega
    go_enter Try.func36, Try.ntmps36
    go_wp2_with fail
    go_ret
    exact ⟨by rw [HQ.out]; rfl, rfl⟩
  · have HQ := Lib.hid (show vrst b n = ⟨#[]⟩ by
      rw [vrst, Nat.min_eq_right (by omega)]
      apply ByteArray.ext; apply Array.ext'; simp)
    have hd : b.size < n := by omega
    go_enter Try.func36, Try.ntmps36
    go_wp2_with fail
    go_ret
    exact ⟨by rw [HQ.out]; rfl, rfl⟩
end Go.Proofs.Ytkpgenmlpkfokaa
