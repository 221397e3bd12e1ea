/- What is proved here: the walk of the keyed sum: Sum. -/
import Derived.Test.YtincoocagfegfaaK5
set_option linter.unusedVariables false
set_option linter.unusedSimpArgs false
namespace Go.Proofs.Ytincoocagfegfaa
open Go.RowKit
/-- All bytes are added. -/
def addL : Four → List UInt8 → List UInt8 → Four × List UInt8
  | x, left, [] => (x, left)
  | x, left, c :: r => addL (addS x left c).1 (addS x left c).2 r
theorem addL_snoc : ∀ (r : List UInt8) (x : Four) (left : List UInt8) (c : UInt8), addL x left (r ++ [c]) = addS (addL x left r).1 (addL x left r).2 c
  | [], x, left, c => rfl
  | d :: r, x, left, c => addL_snoc r _ _ c
theorem addS_le (x : Four) (left : List UInt8) (c : UInt8) (h : left.length ≤ 7) : (addS x left c).2.length ≤ 7 := by
  unfold addS; split
  · simp
  · simp; omega
theorem addL_le : ∀ (r : List UInt8) (x : Four) (left : List UInt8), left.length ≤ 7 → (addL x left r).2.length ≤ 7
  | [], x, left, h => h
  | c :: r, x, left, h => addL_le r _ _ (addS_le x left c h)
def keyedSum (key b : List UInt8) : BitVec 64 :=
  let s := addL (Four.begin key) [] b
  sumEnd s.1 s.2 b.length
theorem take_snoc (b : ByteArray) (k : Nat) (h : k < b.size) : b.data.toList.take (k + 1) = b.data.toList.take k ++ [b[k]] := by
  rw [List.take_succ_eq_append_getElem (by simpa using h)]; rfl
set_option maxHeartbeats 2000000 in
theorem Sum_bad (key b : ByteArray) (w : World) (hk : key.size ≠ 16) :
    Calls Try.prog 32 #[.string key, .string b] w fun e w' => e = .returned (.tuple #[.int .u64 0, .int .i64 2]) ∧ Below w.heap.size w w' := by
  have h1 : ((key.size : Int) != 16) = true := by rw [bne_iff_ne]; omega
  clear hk
  go_enter Try.func32, Try.ntmps32
  go_wp2_with fail
  go_ret2
  exact ⟨rfl, Below.refl _ _⟩
set_option maxHeartbeats 2000000 in
theorem Sum_ok (key b : ByteArray) (w : World) (hk : key.size = 16) (hb : b.size ≤ 4611686018427387904) :
    Calls Try.prog 32 #[.string key, .string b] w fun e w' => e = .returned (.tuple #[.int .u64 (w64 (keyedSum key.data.toList b.data.toList)), .int .i64 0]) ∧ Below w.heap.size w w' := by
  have h1 : ((key.size : Int) != 16) = false := by rw [hk]; rfl
  have Hk := Lib.hid hk; clear hk
  go_enter Try.func32, Try.ntmps32
  go_wp2_with fail
  refine (begin_any key _ Hk.out).mono ?_
  rintro e w1 ⟨g, rfl, hL1, hS1⟩
  have HL1 := Lib.hid hL1; clear hL1
  have HS1 := Lib.hid hS1; clear hS1
  go_wp2_with fail
  go_loopw [15, 7] (fun i _ wr => ∃ k : Nat, k ≤ b.size ∧ i = .int .i64 k ∧ Below w.heap.size w wr ∧ Summing w.heap.size wr g (addL (Four.begin key.data.toList) [] (b.data.toList.take k)).1 (addL (Four.begin key.data.toList) [] (b.data.toList.take k)).2 k) (fun i _ _ => b.size - (intOf i).toNat)
  case atStart => exact ⟨0, Nat.zero_le _, rfl, HL1.out, HS1.out⟩
  case round =>
    obtain ⟨k, hk, rfl, hL, hS⟩ := hrel
    have HL := Lib.hid hL; clear hL
    have HS := Lib.hid hS; clear hS
    by_cases hlt : k < b.size
    · go_wp2_with fail
      have hle : (addL (Four.begin key.data.toList) [] (b.data.toList.take k)).2.length ≤ 7 := addL_le _ _ _ (by simp)
      refine (add_any w.heap.size g _ _ k b[k] wr hle (by omega) HL.out.size HS.out).mono ?_
      rintro e w2 ⟨rfl, hL2, hS2⟩
      clear hle
      have HL2 := Lib.hid hL2; clear hL2
      have HS2 := Lib.hid hS2; clear hS2
      go_wp2_with fail
      go_roundw
      case rel => exact ⟨k + 1, by omega, by go_num, HL.out.trans HL2.out, by rw [take_snoc b k hlt, addL_snoc]; exact HS2.out⟩
      case measure => simp [intOf]; omega
    · obtain rfl : k = b.size := by omega
      go_wp2_with fail
      refine (end_any w.heap.size g _ _ b.size wr (addL_le _ _ _ (by simp)) hb HL.out.size HS.out).mono ?_
      rintro e w2 ⟨rfl, hL2⟩
      have HL2 := Lib.hid hL2; clear hL2
      go_wp2_with fail
      go_ret2
      refine ⟨?_, HL.out.trans HL2.out⟩
      simp [keyedSum, List.take_of_length_le]
end Go.Proofs.Ytincoocagfegfaa
