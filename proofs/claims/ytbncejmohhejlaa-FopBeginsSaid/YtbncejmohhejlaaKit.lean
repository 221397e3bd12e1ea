/- What is proved here: walks of Pick and Flip of the statements' own kit. -/
import Derived.Test.YtbncejmohhejlaaStr
import Derived.RegionTactic
import Derived.StillTailTactics
import Derived.Test.YtbncejmohhejlaaStill
set_option linter.unusedVariables false
set_option linter.unusedSimpArgs false
namespace Go.Proofs.Ytbncejmohhejlaa
open Go.RowKit
set_option maxHeartbeats 1000000 in
theorem pick_any (n many : Int) (w : World) (h1 : 1 ≤ many) (h2 : many ≤ 4611686018427387904) (h3 : -9223372036854775808 ≤ n) (h4 : n ≤ 9223372036854775807) :
    Calls Try.prog 9 #[.int .i64 n, .int .i64 many] w fun e w' => e = .returned (.int .i64 (n % many)) ∧ w = w' := by
  have hp := Int.emod_nonneg n (by omega : many ≠ 0)
  have hq := Int.emod_lt_of_pos n (by omega : 0 < many)
  have hr : (n.tmod many = n % many ∧ 0 ≤ n.tmod many) ∨ (n.tmod many + many = n % many ∧ n.tmod many < 0) := by
    have ht := Int.tmod_eq_emod (a := n) (b := many)
    split at ht
    · left; exact ⟨by omega, by omega⟩
    · right
      have : (many.natAbs : Int) = many := Int.natAbs_of_nonneg (by omega)
      exact ⟨by omega, by omega⟩
  rcases hr with ⟨e1, e2⟩ | ⟨e1, e2⟩
  · rw [← e1]
    rw [← e1] at hp hq
    clear e1
    go_enter Try.func9, Try.ntmps9
    go_wp2_with fail
    go_ret
    exact ⟨rfl, rfl⟩
  · rw [← e1]
    rw [← e1] at hp hq
    clear e1
    go_enter Try.func9, Try.ntmps9
    go_wp2_with fail
    go_ret
    exact ⟨rfl, rfl⟩
theorem pow_u8 : ∀ t : Nat, t ≤ 7 → ((1 : UInt8) <<< UInt8.ofNat t).toNat = 2 ^ t := by decide
theorem xor_bit (c : UInt8) (t : Nat) (ht : t ≤ 7) : bits .xor .u8 (c.toNat : Int) (2 ^ t % 256) = ((c ^^^ ((1 : UInt8) <<< UInt8.ofNat t)).toNat : Int) := by
  have h1 : (2 : Int) ^ t % 256 = ((2 ^ t : Nat) : Int) := by
    have : 2 ^ t ≤ 2 ^ 7 := Nat.pow_le_pow_right (by omega) ht
    have h : (2 : Int) ^ t = ((2 ^ t : Nat) : Int) := by simp
    rw [h]; generalize 2 ^ t = p at *; omega
  have h2 : 2 ^ t < 256 := by
    have : 2 ^ t ≤ 2 ^ 7 := Nat.pow_le_pow_right (by omega) ht
    omega
  rw [h1, u8_xor_nat _ _ c.toNat_lt h2, UInt8.toNat_xor, pow_u8 t ht]
/-- One bit of a list of bytes is inverted, counted from the first byte's highest. -/
def flipAt (l : List UInt8) (k : Nat) : List UInt8 := l.set (k / 8) (l.getD (k / 8) 0 ^^^ (1 <<< UInt8.ofNat (7 - k % 8)))
def flipOf (l : List UInt8) (n : Int) : List UInt8 := if l = [] then [] else flipAt l (n % (8 * l.length : Nat)).toNat
attribute [local go_sem] run_bytes bytes_size
end Go.Proofs.Ytbncejmohhejlaa
