/- What is proved here: walks of within and bytes of units, and of the reference's. -/
import Derived.Test.YtkpgenmlpkfokaaKit
import Derived.Test.YtkpgenmlpkfokaaCalm
import Derived.Test.YtkpgenmlpkfokaaRet
import Derived.IntWalk
import Derived.Deep.DeepCutAuto
import Derived.Deep.LoopGhost
set_option linter.unusedVariables false
set_option linter.unusedSimpArgs false
namespace Go.Proofs.Ytkpgenmlpkfokaa
open Go.RowKit
/-- A number's lowest byte. -/
def byt (n : Int) : UInt8 := UInt8.ofNat (n % 256).toNat
/-- A number in so many bytes, big-endian. -/
def beN : Nat → Int → List UInt8
  | 0, _ => []
  | k + 1, n => byt (n / 2 ^ (8 * k)) :: beN k n
theorem beN_length : ∀ (k : Nat) (n : Int), (beN k n).length = k
  | 0, _ => rfl
  | k + 1, n => by rw [beN, List.length_cons, beN_length k n]
theorem size_list (s : ByteArray) : s.size = s.data.toList.length := by simp
theorem byt_toNat (n : Int) : ((byt n).toNat : Int) = n % 256 := by
  have h1 := Int.emod_nonneg n (by omega : (256 : Int) ≠ 0)
  have h2 := Int.emod_lt_of_pos n (by omega : (0 : Int) < 256)
  unfold byt
  rw [UInt8.toNat_ofNat']
  omega
set_option maxHeartbeats 1000000 in
theorem uwithin_any (n a b : Int) (w : World) : Calls Try.prog 29 #[.int .i64 n, .int .i64 a, .int .i64 b] w fun e w' => e = .returned (.bool (decide (a ≤ n ∧ n ≤ b))) ∧ w = w' := by
  by_cases h1 : a ≤ n <;> by_cases h2 : n ≤ b
  all_goals
    go_enter Try.func29, Try.ntmps29
    go_wp2_with fail
    go_ret
    exact ⟨by simp [h1, h2], rfl⟩
set_option maxHeartbeats 1000000 in
theorem vwithin_any (n a b : Int) (w : World) : Calls Try.prog 31 #[.int .i64 n, .int .i64 a, .int .i64 b] w fun e w' => e = .returned (.bool (decide (a ≤ n ∧ n ≤ b))) ∧ w = w' := by
  by_cases h1 : a ≤ n <;> by_cases h2 : n ≤ b
  all_goals
    go_enter Try.func31, Try.ntmps31
    go_wp2_with fail
    go_ret
    exact ⟨by simp [h1, h2], rfl⟩
set_option maxHeartbeats 2000000 in
set_option maxRecDepth 100000 in
theorem ubytes_any (n : Int) (m : Nat) (w : World) (hm : m ≤ 8) (h1 : -9223372036854775808 ≤ n) (h2 : n ≤ 9223372036854775807) :
    Calls Try.prog 24 #[.int .i64 n, .int .i64 (m : Int)] w fun e w' => ∃ v', e = .returned v' ∧ Row w' w.heap.size v' (beN m n) ∧ Below w.heap.size w w' := by
  go_enter Try.func24, Try.ntmps24
  go_wp2_with fail
  go_loopw [5, 6] (fun bv iv wr => ∃ (k : Nat) (i : Int), Hid (i + 1 = k) ∧ k ≤ m ∧ -1 ≤ i ∧ i ≤ 7 ∧ iv = .int .i64 i ∧ Below w.heap.size w wr ∧ ∃ xs, Hid (xs ++ beN k n = beN m n) ∧ Row wr w.heap.size bv xs) (fun _ i _ => (intOf i + 1).toNat)
  case atStart => exact ⟨m, (m : Int) - 1, Lib.hid (by omega), by omega, by omega, by omega, rfl, Below.refl _ _, [], Lib.hid rfl, row_nil _ _⟩
  case round =>
    obtain ⟨k, i, hk, hkm, hi1, hi2, rfl, hL, xs, hxs, hR⟩ := hrel
    have HL := Lib.hid hL; have HR := Lib.hid hR; clear hL hR
    by_cases hi : 0 ≤ i
    · obtain ⟨j, rfl⟩ := Int.eq_ofNat_of_zero_le hi
      obtain rfl : k = j + 1 := by have := hk.out; omega
      have hj : j ≤ 7 := by omega
      clear hi1 hi2 hi
      obtain ⟨oa, oc, rfl⟩ := row_form HR.out
      have hl3 := HL.out.size
      have hlen : xs.length ≤ 8 := by
        have := congrArg List.length hxs.out
        rw [List.length_append, beN_length, beN_length] at this; omega
      go_wp2_with (at_builtin; refine append_byte _ rfl _ _ rfl w.heap.size _ _ rfl (row_keep HR.out ((Keep.refl [] _).alloc _) (fun _ _ => by simp)) wr.heap.size (byt (n / 2 ^ (8 * j))) rfl ?c1 ?c2 ?c3 ?_)
      case c1 => simp [vb, byt_toNat]
      case c2 => omega
      case c3 => simp; omega
      intro v2 w2 hR2 hK2
      have K2 := ((Keep.refl _ wr).alloc _).trans hK2
      have HL2 := Lib.hid (HL.out.trans (K2.toBelowAt (by omega) (fun i hi => by rw [Option.mem_toList] at hi; exact (row_lt HR.out i hi).1)))
      have HR2 := Lib.hid hR2
      clear hR2 hK2 K2 hlen HR HL
      go_wp2_with fail
      go_roundw
      case rel => exact ⟨j, (j : Int) - 1, Lib.hid (by omega), by omega, by omega, by omega, rfl, HL2.out, _, Lib.hid (by rw [List.append_assoc]; exact hxs.out), HR2.out⟩
      case measure => simp [intOf]
    · obtain rfl : i = -1 := by omega
      obtain rfl : k = 0 := by have := hk.out; omega
      go_wp2_with fail
      go_ret
      refine ⟨_, rfl, ?_, HL.out⟩
      rw [← hxs.out, beN, List.append_nil]; exact HR.out
theorem pow_step (n : Int) (k : Nat) : n / 2 ^ (8 * k) / 256 = n / 2 ^ (8 * (k + 1)) := by
  rw [Int.ediv_ediv_of_nonneg (Int.pow_nonneg (by omega)), show 8 * (k + 1) = 8 * k + 8 by omega, Int.pow_add]; rfl
set_option maxHeartbeats 2000000 in
set_option maxRecDepth 100000 in
theorem vbytes_any (n : Int) (m : Nat) (w : World) (hm : m ≤ 8) (h1 : 0 ≤ n) (h2 : n ≤ 9223372036854775807) :
    Calls Try.prog 27 #[.int .i64 n, .int .i64 (m : Int)] w fun e w' => e = .returned (strOf (beN m n)) ∧ Below w.heap.size w w' := by
  go_enter Try.func27, Try.ntmps27
  go_wp2_with fail
  go_loopw [0, 5, 6] (fun nv ov iv wr => ∃ (k : Nat) (s : ByteArray) (d : Int), k ≤ m ∧ iv = .int .i64 k ∧ Below w.heap.size w wr ∧ 0 ≤ d ∧ d ≤ 9223372036854775807 ∧ nv = .int .i64 d ∧ Hid (d = n / 2 ^ (8 * k)) ∧ ov = .string s ∧ Hid (s.data.toList = beN k n)) (fun _ _ i _ => m - (intOf i).toNat)
  case atStart => exact ⟨0, _, n, by omega, rfl, Below.refl _ _, h1, h2, rfl, Lib.hid (by simp), rfl, Lib.hid rfl⟩
  case round =>
    obtain ⟨k, s, d, hk, rfl, hL, hd0, hd1, rfl, hd, rfl, hs⟩ := hrel
    have HL := Lib.hid hL; clear hL
    by_cases hlt : k < m
    · have hcv := byte_string wr (d % 256) (byt d) (byt_toNat d).symm
      have hsz : s.size ≤ 8 := by
        have := congrArg List.length hs.out
        rw [beN_length] at this; rw [size_list]; omega
      go_wp2_with fail
      go_roundw
      case rel =>
        refine ⟨k + 1, _, d / 256, by omega, by go_num, HL.out.alloc HL.out.size _, Int.ediv_nonneg hd0 (by omega), by omega, rfl, Lib.hid ?_, rfl, Lib.hid ?_⟩
        · rw [hd.out, pow_step]
        · rw [beN, ← hd.out, ← hs.out]; rfl
      case measure => simp [intOf]; omega
    · obtain rfl : k = m := by omega
      go_wp2_with fail
      go_ret
      exact ⟨by rw [str_of, hs.out]; rfl, HL.out⟩
end Go.Proofs.Ytkpgenmlpkfokaa
