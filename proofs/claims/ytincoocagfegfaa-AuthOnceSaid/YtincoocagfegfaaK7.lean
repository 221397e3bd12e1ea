/- What is proved here: the walk of Seal and Open of the keyed sums. -/
import Derived.Test.YtincoocagfegfaaK6
set_option linter.unusedVariables false
set_option linter.unusedSimpArgs false
namespace Go.Proofs.Ytincoocagfegfaa
open Go.RowKit
/-- Byte j of a number of eight bytes, the highest first. -/
def beByte (n : BitVec 64) (j : Nat) : UInt8 := lo8 (n >>> (8 * (7 - j)))
def be8 (n : BitVec 64) : List UInt8 := (List.range 8).map (beByte n)
theorem be8_take (n : BitVec 64) (j : Nat) (h : j < 8) : (be8 n).take (j + 1) = (be8 n).take j ++ [beByte n j] := by
  rw [List.take_succ_eq_append_getElem (by simpa [be8] using h)]; simp [be8]
theorem beByte_int (n : BitVec 64) (k : Nat) : w64 n / 2 ^ (8 * (7 - k)) % 256 = ((beByte n k).toNat : Int) := by
  have h := w64_shr n (8 * (7 - k))
  have h2 : ((2 ^ (8 * (7 - k)) : Nat) : Int) = 2 ^ (8 * (7 - k)) := by simp
  rw [h2] at h
  rw [h, beByte, ← wrap_u8_w64, IntKind.wrap_u8']
attribute [local go_sem] run_bytes bytes_size
end Go.Proofs.Ytincoocagfegfaa
