/- What is proved here: small lemmas on words (BitVec) and on the model's integers, as rewrite rules of the walk; on worlds of which some blocks may have changed. No condition. -/
import Derived.WalkKit
import Derived.WalkSpells
import Derived.WalkLawsBesides
import Derived.Lib.Hide
import Derived.Handy
import Derived.BigQuiet
import Derived.Deep.QuietTactic
set_option linter.unusedVariables false
set_option linter.unusedSimpArgs false
namespace Go.Proofs.Ytbncejmohhejlaa
open Go.RowKit


/-- A word of 8 bits as the number that the model holds. -/
def w8 (x : BitVec 8) : Int := (x.toNat : Int)
theorem w8_def (x : BitVec 8) : w8 x = (x.toNat : Int) := rfl
theorem w8_nonneg (x : BitVec 8) : 0 ≤ w8 x := by unfold w8; omega
theorem w8_lt (x : BitVec 8) : w8 x < 256 := by have := x.isLt; unfold w8; omega
theorem w8_inj {x y : BitVec 8} (h : w8 x = w8 y) : x = y := by unfold w8 at h; exact BitVec.eq_of_toNat_eq (by omega)
@[go_sem] theorem w8_beq (x y : BitVec 8) : (w8 x == w8 y) = (x == y) := by
  rw [Bool.eq_iff_iff]; simp only [beq_iff_eq]; exact ⟨w8_inj, fun h => by rw [h]⟩
@[go_sem] theorem w8_bne (x y : BitVec 8) : (w8 x != w8 y) = (x != y) := by simp only [bne, w8_beq]
theorem w8_ofInt (x : BitVec 8) : BitVec.ofInt 8 (w8 x) = x := by unfold w8; rw [BitVec.ofInt_natCast]; simp
theorem w8_wrap (x : BitVec 8) : IntKind.u8.wrap (w8 x) = w8 x := by
  have := w8_lt x; have := w8_nonneg x; simp only [IntKind.wrap, IntKind.bits, IntKind.signed]; simp; omega
theorem w8_wrap_eq (n : Int) : IntKind.u8.wrap n = w8 (BitVec.ofInt 8 n) := by
  simp only [IntKind.wrap, IntKind.bits, IntKind.signed, w8, BitVec.toNat_ofInt]; simp; omega
theorem w8_ofNat (k : Nat) : w8 (BitVec.ofNat 8 k) = ((k % 256 : Nat) : Int) := by simp [w8]
@[go_sem] theorem w8_xor (x y : BitVec 8) : bits .xor .u8 (w8 x) (w8 y) = w8 (x ^^^ y) := by
  simp only [bits, IntKind.bits, w8_ofInt]; exact w8_wrap _
@[go_sem] theorem w8_or (x y : BitVec 8) : bits .or .u8 (w8 x) (w8 y) = w8 (x ||| y) := by
  simp only [bits, IntKind.bits, w8_ofInt]; exact w8_wrap _
@[go_sem] theorem w8_and (x y : BitVec 8) : bits .and .u8 (w8 x) (w8 y) = w8 (x &&& y) := by
  simp only [bits, IntKind.bits, w8_ofInt]; exact w8_wrap _
theorem w8_xor_lit (x : BitVec 8) (k : Int) : bits .xor .u8 (w8 x) k = w8 (x ^^^ BitVec.ofInt 8 k) := by
  simp only [bits, IntKind.bits, w8_ofInt]; exact w8_wrap _
theorem w8_and_lit (x : BitVec 8) (k : Int) : bits .and .u8 (w8 x) k = w8 (x &&& BitVec.ofInt 8 k) := by
  simp only [bits, IntKind.bits, w8_ofInt]; exact w8_wrap _
theorem w8_or_lit (x : BitVec 8) (k : Int) : bits .or .u8 (w8 x) k = w8 (x ||| BitVec.ofInt 8 k) := by
  simp only [bits, IntKind.bits, w8_ofInt]; exact w8_wrap _
@[go_sem] theorem w8_add (x y : BitVec 8) : IntKind.u8.wrap (w8 x + w8 y) = w8 (x + y) := by
  simp only [IntKind.wrap, IntKind.bits, IntKind.signed, w8, BitVec.toNat_add]; simp
theorem w8_mul_lit (x : BitVec 8) (k : Nat) : IntKind.u8.wrap (w8 x * k) = w8 (x * BitVec.ofNat 8 k) := by
  simp only [IntKind.wrap, IntKind.bits, IntKind.signed, w8, BitVec.toNat_mul, BitVec.toNat_ofNat]; simp
theorem w8_shl (x : BitVec 8) (k : Nat) : IntKind.u8.wrap (w8 x * ((2 ^ k : Nat) : Int)) = w8 (x <<< k) := by
  simp only [IntKind.wrap, IntKind.bits, IntKind.signed, w8, BitVec.toNat_shiftLeft, Nat.shiftLeft_eq]; simp
theorem w8_shr (x : BitVec 8) (k : Nat) : w8 x / ((2 ^ k : Nat) : Int) = w8 (x >>> k) := by
  simp only [w8, BitVec.toNat_ushiftRight, Nat.shiftRight_eq_div_pow]; exact (Int.natCast_ediv _ _).symm

@[go_sem] theorem w8_shl1 (x : BitVec 8) : IntKind.u8.wrap (w8 x * (2 : Int)) = w8 (x <<< 1) := w8_shl x 1
@[go_sem] theorem w8_shr1 (x : BitVec 8) : w8 x / (2 : Int) = w8 (x >>> 1) := w8_shr x 1
@[go_sem] theorem w8_shl2 (x : BitVec 8) : IntKind.u8.wrap (w8 x * (4 : Int)) = w8 (x <<< 2) := w8_shl x 2
@[go_sem] theorem w8_shr2 (x : BitVec 8) : w8 x / (4 : Int) = w8 (x >>> 2) := w8_shr x 2
@[go_sem] theorem w8_shl3 (x : BitVec 8) : IntKind.u8.wrap (w8 x * (8 : Int)) = w8 (x <<< 3) := w8_shl x 3
@[go_sem] theorem w8_shr3 (x : BitVec 8) : w8 x / (8 : Int) = w8 (x >>> 3) := w8_shr x 3
@[go_sem] theorem w8_shl4 (x : BitVec 8) : IntKind.u8.wrap (w8 x * (16 : Int)) = w8 (x <<< 4) := w8_shl x 4
@[go_sem] theorem w8_shr4 (x : BitVec 8) : w8 x / (16 : Int) = w8 (x >>> 4) := w8_shr x 4
@[go_sem] theorem w8_shl5 (x : BitVec 8) : IntKind.u8.wrap (w8 x * (32 : Int)) = w8 (x <<< 5) := w8_shl x 5
@[go_sem] theorem w8_shr5 (x : BitVec 8) : w8 x / (32 : Int) = w8 (x >>> 5) := w8_shr x 5
@[go_sem] theorem w8_shl6 (x : BitVec 8) : IntKind.u8.wrap (w8 x * (64 : Int)) = w8 (x <<< 6) := w8_shl x 6
@[go_sem] theorem w8_shr6 (x : BitVec 8) : w8 x / (64 : Int) = w8 (x >>> 6) := w8_shr x 6
@[go_sem] theorem w8_shl7 (x : BitVec 8) : IntKind.u8.wrap (w8 x * (128 : Int)) = w8 (x <<< 7) := w8_shl x 7
@[go_sem] theorem w8_shr7 (x : BitVec 8) : w8 x / (128 : Int) = w8 (x >>> 7) := w8_shr x 7

/-- A word of 16 bits as the number that the model holds. -/
def w16 (x : BitVec 16) : Int := (x.toNat : Int)
theorem w16_def (x : BitVec 16) : w16 x = (x.toNat : Int) := rfl
theorem w16_nonneg (x : BitVec 16) : 0 ≤ w16 x := by unfold w16; omega
theorem w16_lt (x : BitVec 16) : w16 x < 65536 := by have := x.isLt; unfold w16; omega
theorem w16_inj {x y : BitVec 16} (h : w16 x = w16 y) : x = y := by unfold w16 at h; exact BitVec.eq_of_toNat_eq (by omega)
@[go_sem] theorem w16_beq (x y : BitVec 16) : (w16 x == w16 y) = (x == y) := by
  rw [Bool.eq_iff_iff]; simp only [beq_iff_eq]; exact ⟨w16_inj, fun h => by rw [h]⟩
@[go_sem] theorem w16_bne (x y : BitVec 16) : (w16 x != w16 y) = (x != y) := by simp only [bne, w16_beq]
theorem w16_ofInt (x : BitVec 16) : BitVec.ofInt 16 (w16 x) = x := by unfold w16; rw [BitVec.ofInt_natCast]; simp
theorem w16_wrap (x : BitVec 16) : IntKind.u16.wrap (w16 x) = w16 x := by
  have := w16_lt x; have := w16_nonneg x; simp only [IntKind.wrap, IntKind.bits, IntKind.signed]; simp; omega
theorem w16_wrap_eq (n : Int) : IntKind.u16.wrap n = w16 (BitVec.ofInt 16 n) := by
  simp only [IntKind.wrap, IntKind.bits, IntKind.signed, w16, BitVec.toNat_ofInt]; simp; omega
theorem w16_ofNat (k : Nat) : w16 (BitVec.ofNat 16 k) = ((k % 65536 : Nat) : Int) := by simp [w16]
@[go_sem] theorem w16_xor (x y : BitVec 16) : bits .xor .u16 (w16 x) (w16 y) = w16 (x ^^^ y) := by
  simp only [bits, IntKind.bits, w16_ofInt]; exact w16_wrap _
@[go_sem] theorem w16_or (x y : BitVec 16) : bits .or .u16 (w16 x) (w16 y) = w16 (x ||| y) := by
  simp only [bits, IntKind.bits, w16_ofInt]; exact w16_wrap _
@[go_sem] theorem w16_and (x y : BitVec 16) : bits .and .u16 (w16 x) (w16 y) = w16 (x &&& y) := by
  simp only [bits, IntKind.bits, w16_ofInt]; exact w16_wrap _
theorem w16_xor_lit (x : BitVec 16) (k : Int) : bits .xor .u16 (w16 x) k = w16 (x ^^^ BitVec.ofInt 16 k) := by
  simp only [bits, IntKind.bits, w16_ofInt]; exact w16_wrap _
theorem w16_and_lit (x : BitVec 16) (k : Int) : bits .and .u16 (w16 x) k = w16 (x &&& BitVec.ofInt 16 k) := by
  simp only [bits, IntKind.bits, w16_ofInt]; exact w16_wrap _
theorem w16_or_lit (x : BitVec 16) (k : Int) : bits .or .u16 (w16 x) k = w16 (x ||| BitVec.ofInt 16 k) := by
  simp only [bits, IntKind.bits, w16_ofInt]; exact w16_wrap _
@[go_sem] theorem w16_add (x y : BitVec 16) : IntKind.u16.wrap (w16 x + w16 y) = w16 (x + y) := by
  simp only [IntKind.wrap, IntKind.bits, IntKind.signed, w16, BitVec.toNat_add]; simp
theorem w16_mul_lit (x : BitVec 16) (k : Nat) : IntKind.u16.wrap (w16 x * k) = w16 (x * BitVec.ofNat 16 k) := by
  simp only [IntKind.wrap, IntKind.bits, IntKind.signed, w16, BitVec.toNat_mul, BitVec.toNat_ofNat]; simp
theorem w16_shl (x : BitVec 16) (k : Nat) : IntKind.u16.wrap (w16 x * ((2 ^ k : Nat) : Int)) = w16 (x <<< k) := by
  simp only [IntKind.wrap, IntKind.bits, IntKind.signed, w16, BitVec.toNat_shiftLeft, Nat.shiftLeft_eq]; simp
theorem w16_shr (x : BitVec 16) (k : Nat) : w16 x / ((2 ^ k : Nat) : Int) = w16 (x >>> k) := by
  simp only [w16, BitVec.toNat_ushiftRight, Nat.shiftRight_eq_div_pow]; exact (Int.natCast_ediv _ _).symm

@[go_sem] theorem w16_shl1 (x : BitVec 16) : IntKind.u16.wrap (w16 x * (2 : Int)) = w16 (x <<< 1) := w16_shl x 1
@[go_sem] theorem w16_shr1 (x : BitVec 16) : w16 x / (2 : Int) = w16 (x >>> 1) := w16_shr x 1
@[go_sem] theorem w16_shl2 (x : BitVec 16) : IntKind.u16.wrap (w16 x * (4 : Int)) = w16 (x <<< 2) := w16_shl x 2
@[go_sem] theorem w16_shr2 (x : BitVec 16) : w16 x / (4 : Int) = w16 (x >>> 2) := w16_shr x 2
@[go_sem] theorem w16_shl3 (x : BitVec 16) : IntKind.u16.wrap (w16 x * (8 : Int)) = w16 (x <<< 3) := w16_shl x 3
@[go_sem] theorem w16_shr3 (x : BitVec 16) : w16 x / (8 : Int) = w16 (x >>> 3) := w16_shr x 3
@[go_sem] theorem w16_shl4 (x : BitVec 16) : IntKind.u16.wrap (w16 x * (16 : Int)) = w16 (x <<< 4) := w16_shl x 4
@[go_sem] theorem w16_shr4 (x : BitVec 16) : w16 x / (16 : Int) = w16 (x >>> 4) := w16_shr x 4
@[go_sem] theorem w16_shl5 (x : BitVec 16) : IntKind.u16.wrap (w16 x * (32 : Int)) = w16 (x <<< 5) := w16_shl x 5
@[go_sem] theorem w16_shr5 (x : BitVec 16) : w16 x / (32 : Int) = w16 (x >>> 5) := w16_shr x 5
@[go_sem] theorem w16_shl6 (x : BitVec 16) : IntKind.u16.wrap (w16 x * (64 : Int)) = w16 (x <<< 6) := w16_shl x 6
@[go_sem] theorem w16_shr6 (x : BitVec 16) : w16 x / (64 : Int) = w16 (x >>> 6) := w16_shr x 6
@[go_sem] theorem w16_shl7 (x : BitVec 16) : IntKind.u16.wrap (w16 x * (128 : Int)) = w16 (x <<< 7) := w16_shl x 7
@[go_sem] theorem w16_shr7 (x : BitVec 16) : w16 x / (128 : Int) = w16 (x >>> 7) := w16_shr x 7
@[go_sem] theorem w16_shl8 (x : BitVec 16) : IntKind.u16.wrap (w16 x * (256 : Int)) = w16 (x <<< 8) := w16_shl x 8
@[go_sem] theorem w16_shr8 (x : BitVec 16) : w16 x / (256 : Int) = w16 (x >>> 8) := w16_shr x 8
@[go_sem] theorem w16_shl9 (x : BitVec 16) : IntKind.u16.wrap (w16 x * (512 : Int)) = w16 (x <<< 9) := w16_shl x 9
@[go_sem] theorem w16_shr9 (x : BitVec 16) : w16 x / (512 : Int) = w16 (x >>> 9) := w16_shr x 9
@[go_sem] theorem w16_shl10 (x : BitVec 16) : IntKind.u16.wrap (w16 x * (1024 : Int)) = w16 (x <<< 10) := w16_shl x 10
@[go_sem] theorem w16_shr10 (x : BitVec 16) : w16 x / (1024 : Int) = w16 (x >>> 10) := w16_shr x 10
@[go_sem] theorem w16_shl11 (x : BitVec 16) : IntKind.u16.wrap (w16 x * (2048 : Int)) = w16 (x <<< 11) := w16_shl x 11
@[go_sem] theorem w16_shr11 (x : BitVec 16) : w16 x / (2048 : Int) = w16 (x >>> 11) := w16_shr x 11
@[go_sem] theorem w16_shl12 (x : BitVec 16) : IntKind.u16.wrap (w16 x * (4096 : Int)) = w16 (x <<< 12) := w16_shl x 12
@[go_sem] theorem w16_shr12 (x : BitVec 16) : w16 x / (4096 : Int) = w16 (x >>> 12) := w16_shr x 12
@[go_sem] theorem w16_shl13 (x : BitVec 16) : IntKind.u16.wrap (w16 x * (8192 : Int)) = w16 (x <<< 13) := w16_shl x 13
@[go_sem] theorem w16_shr13 (x : BitVec 16) : w16 x / (8192 : Int) = w16 (x >>> 13) := w16_shr x 13
@[go_sem] theorem w16_shl14 (x : BitVec 16) : IntKind.u16.wrap (w16 x * (16384 : Int)) = w16 (x <<< 14) := w16_shl x 14
@[go_sem] theorem w16_shr14 (x : BitVec 16) : w16 x / (16384 : Int) = w16 (x >>> 14) := w16_shr x 14
@[go_sem] theorem w16_shl15 (x : BitVec 16) : IntKind.u16.wrap (w16 x * (32768 : Int)) = w16 (x <<< 15) := w16_shl x 15
@[go_sem] theorem w16_shr15 (x : BitVec 16) : w16 x / (32768 : Int) = w16 (x >>> 15) := w16_shr x 15

/-- A word of 32 bits as the number that the model holds. -/
def w32 (x : BitVec 32) : Int := (x.toNat : Int)
theorem w32_def (x : BitVec 32) : w32 x = (x.toNat : Int) := rfl
theorem w32_nonneg (x : BitVec 32) : 0 ≤ w32 x := by unfold w32; omega
theorem w32_lt (x : BitVec 32) : w32 x < 4294967296 := by have := x.isLt; unfold w32; omega
theorem w32_inj {x y : BitVec 32} (h : w32 x = w32 y) : x = y := by unfold w32 at h; exact BitVec.eq_of_toNat_eq (by omega)
@[go_sem] theorem w32_beq (x y : BitVec 32) : (w32 x == w32 y) = (x == y) := by
  rw [Bool.eq_iff_iff]; simp only [beq_iff_eq]; exact ⟨w32_inj, fun h => by rw [h]⟩
@[go_sem] theorem w32_bne (x y : BitVec 32) : (w32 x != w32 y) = (x != y) := by simp only [bne, w32_beq]
theorem w32_ofInt (x : BitVec 32) : BitVec.ofInt 32 (w32 x) = x := by unfold w32; rw [BitVec.ofInt_natCast]; simp
theorem w32_wrap (x : BitVec 32) : IntKind.u32.wrap (w32 x) = w32 x := by
  have := w32_lt x; have := w32_nonneg x; simp only [IntKind.wrap, IntKind.bits, IntKind.signed]; simp; omega
theorem w32_wrap_eq (n : Int) : IntKind.u32.wrap n = w32 (BitVec.ofInt 32 n) := by
  simp only [IntKind.wrap, IntKind.bits, IntKind.signed, w32, BitVec.toNat_ofInt]; simp; omega
theorem w32_ofNat (k : Nat) : w32 (BitVec.ofNat 32 k) = ((k % 4294967296 : Nat) : Int) := by simp [w32]
@[go_sem] theorem w32_xor (x y : BitVec 32) : bits .xor .u32 (w32 x) (w32 y) = w32 (x ^^^ y) := by
  simp only [bits, IntKind.bits, w32_ofInt]; exact w32_wrap _
@[go_sem] theorem w32_or (x y : BitVec 32) : bits .or .u32 (w32 x) (w32 y) = w32 (x ||| y) := by
  simp only [bits, IntKind.bits, w32_ofInt]; exact w32_wrap _
@[go_sem] theorem w32_and (x y : BitVec 32) : bits .and .u32 (w32 x) (w32 y) = w32 (x &&& y) := by
  simp only [bits, IntKind.bits, w32_ofInt]; exact w32_wrap _
theorem w32_xor_lit (x : BitVec 32) (k : Int) : bits .xor .u32 (w32 x) k = w32 (x ^^^ BitVec.ofInt 32 k) := by
  simp only [bits, IntKind.bits, w32_ofInt]; exact w32_wrap _
theorem w32_and_lit (x : BitVec 32) (k : Int) : bits .and .u32 (w32 x) k = w32 (x &&& BitVec.ofInt 32 k) := by
  simp only [bits, IntKind.bits, w32_ofInt]; exact w32_wrap _
theorem w32_or_lit (x : BitVec 32) (k : Int) : bits .or .u32 (w32 x) k = w32 (x ||| BitVec.ofInt 32 k) := by
  simp only [bits, IntKind.bits, w32_ofInt]; exact w32_wrap _
@[go_sem] theorem w32_add (x y : BitVec 32) : IntKind.u32.wrap (w32 x + w32 y) = w32 (x + y) := by
  simp only [IntKind.wrap, IntKind.bits, IntKind.signed, w32, BitVec.toNat_add]; simp
theorem w32_mul_lit (x : BitVec 32) (k : Nat) : IntKind.u32.wrap (w32 x * k) = w32 (x * BitVec.ofNat 32 k) := by
  simp only [IntKind.wrap, IntKind.bits, IntKind.signed, w32, BitVec.toNat_mul, BitVec.toNat_ofNat]; simp
theorem w32_shl (x : BitVec 32) (k : Nat) : IntKind.u32.wrap (w32 x * ((2 ^ k : Nat) : Int)) = w32 (x <<< k) := by
  simp only [IntKind.wrap, IntKind.bits, IntKind.signed, w32, BitVec.toNat_shiftLeft, Nat.shiftLeft_eq]; simp
theorem w32_shr (x : BitVec 32) (k : Nat) : w32 x / ((2 ^ k : Nat) : Int) = w32 (x >>> k) := by
  simp only [w32, BitVec.toNat_ushiftRight, Nat.shiftRight_eq_div_pow]; exact (Int.natCast_ediv _ _).symm

@[go_sem] theorem w32_shl1 (x : BitVec 32) : IntKind.u32.wrap (w32 x * (2 : Int)) = w32 (x <<< 1) := w32_shl x 1
@[go_sem] theorem w32_shr1 (x : BitVec 32) : w32 x / (2 : Int) = w32 (x >>> 1) := w32_shr x 1
@[go_sem] theorem w32_shl2 (x : BitVec 32) : IntKind.u32.wrap (w32 x * (4 : Int)) = w32 (x <<< 2) := w32_shl x 2
@[go_sem] theorem w32_shr2 (x : BitVec 32) : w32 x / (4 : Int) = w32 (x >>> 2) := w32_shr x 2
@[go_sem] theorem w32_shl3 (x : BitVec 32) : IntKind.u32.wrap (w32 x * (8 : Int)) = w32 (x <<< 3) := w32_shl x 3
@[go_sem] theorem w32_shr3 (x : BitVec 32) : w32 x / (8 : Int) = w32 (x >>> 3) := w32_shr x 3
@[go_sem] theorem w32_shl4 (x : BitVec 32) : IntKind.u32.wrap (w32 x * (16 : Int)) = w32 (x <<< 4) := w32_shl x 4
@[go_sem] theorem w32_shr4 (x : BitVec 32) : w32 x / (16 : Int) = w32 (x >>> 4) := w32_shr x 4
@[go_sem] theorem w32_shl5 (x : BitVec 32) : IntKind.u32.wrap (w32 x * (32 : Int)) = w32 (x <<< 5) := w32_shl x 5
@[go_sem] theorem w32_shr5 (x : BitVec 32) : w32 x / (32 : Int) = w32 (x >>> 5) := w32_shr x 5
@[go_sem] theorem w32_shl6 (x : BitVec 32) : IntKind.u32.wrap (w32 x * (64 : Int)) = w32 (x <<< 6) := w32_shl x 6
@[go_sem] theorem w32_shr6 (x : BitVec 32) : w32 x / (64 : Int) = w32 (x >>> 6) := w32_shr x 6
@[go_sem] theorem w32_shl7 (x : BitVec 32) : IntKind.u32.wrap (w32 x * (128 : Int)) = w32 (x <<< 7) := w32_shl x 7
@[go_sem] theorem w32_shr7 (x : BitVec 32) : w32 x / (128 : Int) = w32 (x >>> 7) := w32_shr x 7
@[go_sem] theorem w32_shl8 (x : BitVec 32) : IntKind.u32.wrap (w32 x * (256 : Int)) = w32 (x <<< 8) := w32_shl x 8
@[go_sem] theorem w32_shr8 (x : BitVec 32) : w32 x / (256 : Int) = w32 (x >>> 8) := w32_shr x 8
@[go_sem] theorem w32_shl9 (x : BitVec 32) : IntKind.u32.wrap (w32 x * (512 : Int)) = w32 (x <<< 9) := w32_shl x 9
@[go_sem] theorem w32_shr9 (x : BitVec 32) : w32 x / (512 : Int) = w32 (x >>> 9) := w32_shr x 9
@[go_sem] theorem w32_shl10 (x : BitVec 32) : IntKind.u32.wrap (w32 x * (1024 : Int)) = w32 (x <<< 10) := w32_shl x 10
@[go_sem] theorem w32_shr10 (x : BitVec 32) : w32 x / (1024 : Int) = w32 (x >>> 10) := w32_shr x 10
@[go_sem] theorem w32_shl11 (x : BitVec 32) : IntKind.u32.wrap (w32 x * (2048 : Int)) = w32 (x <<< 11) := w32_shl x 11
@[go_sem] theorem w32_shr11 (x : BitVec 32) : w32 x / (2048 : Int) = w32 (x >>> 11) := w32_shr x 11
@[go_sem] theorem w32_shl12 (x : BitVec 32) : IntKind.u32.wrap (w32 x * (4096 : Int)) = w32 (x <<< 12) := w32_shl x 12
@[go_sem] theorem w32_shr12 (x : BitVec 32) : w32 x / (4096 : Int) = w32 (x >>> 12) := w32_shr x 12
@[go_sem] theorem w32_shl13 (x : BitVec 32) : IntKind.u32.wrap (w32 x * (8192 : Int)) = w32 (x <<< 13) := w32_shl x 13
@[go_sem] theorem w32_shr13 (x : BitVec 32) : w32 x / (8192 : Int) = w32 (x >>> 13) := w32_shr x 13
@[go_sem] theorem w32_shl14 (x : BitVec 32) : IntKind.u32.wrap (w32 x * (16384 : Int)) = w32 (x <<< 14) := w32_shl x 14
@[go_sem] theorem w32_shr14 (x : BitVec 32) : w32 x / (16384 : Int) = w32 (x >>> 14) := w32_shr x 14
@[go_sem] theorem w32_shl15 (x : BitVec 32) : IntKind.u32.wrap (w32 x * (32768 : Int)) = w32 (x <<< 15) := w32_shl x 15
@[go_sem] theorem w32_shr15 (x : BitVec 32) : w32 x / (32768 : Int) = w32 (x >>> 15) := w32_shr x 15
@[go_sem] theorem w32_shl16 (x : BitVec 32) : IntKind.u32.wrap (w32 x * (65536 : Int)) = w32 (x <<< 16) := w32_shl x 16
@[go_sem] theorem w32_shr16 (x : BitVec 32) : w32 x / (65536 : Int) = w32 (x >>> 16) := w32_shr x 16
@[go_sem] theorem w32_shl17 (x : BitVec 32) : IntKind.u32.wrap (w32 x * (131072 : Int)) = w32 (x <<< 17) := w32_shl x 17
@[go_sem] theorem w32_shr17 (x : BitVec 32) : w32 x / (131072 : Int) = w32 (x >>> 17) := w32_shr x 17
@[go_sem] theorem w32_shl18 (x : BitVec 32) : IntKind.u32.wrap (w32 x * (262144 : Int)) = w32 (x <<< 18) := w32_shl x 18
@[go_sem] theorem w32_shr18 (x : BitVec 32) : w32 x / (262144 : Int) = w32 (x >>> 18) := w32_shr x 18
@[go_sem] theorem w32_shl19 (x : BitVec 32) : IntKind.u32.wrap (w32 x * (524288 : Int)) = w32 (x <<< 19) := w32_shl x 19
@[go_sem] theorem w32_shr19 (x : BitVec 32) : w32 x / (524288 : Int) = w32 (x >>> 19) := w32_shr x 19
@[go_sem] theorem w32_shl20 (x : BitVec 32) : IntKind.u32.wrap (w32 x * (1048576 : Int)) = w32 (x <<< 20) := w32_shl x 20
@[go_sem] theorem w32_shr20 (x : BitVec 32) : w32 x / (1048576 : Int) = w32 (x >>> 20) := w32_shr x 20
@[go_sem] theorem w32_shl21 (x : BitVec 32) : IntKind.u32.wrap (w32 x * (2097152 : Int)) = w32 (x <<< 21) := w32_shl x 21
@[go_sem] theorem w32_shr21 (x : BitVec 32) : w32 x / (2097152 : Int) = w32 (x >>> 21) := w32_shr x 21
@[go_sem] theorem w32_shl22 (x : BitVec 32) : IntKind.u32.wrap (w32 x * (4194304 : Int)) = w32 (x <<< 22) := w32_shl x 22
@[go_sem] theorem w32_shr22 (x : BitVec 32) : w32 x / (4194304 : Int) = w32 (x >>> 22) := w32_shr x 22
@[go_sem] theorem w32_shl23 (x : BitVec 32) : IntKind.u32.wrap (w32 x * (8388608 : Int)) = w32 (x <<< 23) := w32_shl x 23
@[go_sem] theorem w32_shr23 (x : BitVec 32) : w32 x / (8388608 : Int) = w32 (x >>> 23) := w32_shr x 23
@[go_sem] theorem w32_shl24 (x : BitVec 32) : IntKind.u32.wrap (w32 x * (16777216 : Int)) = w32 (x <<< 24) := w32_shl x 24
@[go_sem] theorem w32_shr24 (x : BitVec 32) : w32 x / (16777216 : Int) = w32 (x >>> 24) := w32_shr x 24
@[go_sem] theorem w32_shl25 (x : BitVec 32) : IntKind.u32.wrap (w32 x * (33554432 : Int)) = w32 (x <<< 25) := w32_shl x 25
@[go_sem] theorem w32_shr25 (x : BitVec 32) : w32 x / (33554432 : Int) = w32 (x >>> 25) := w32_shr x 25
@[go_sem] theorem w32_shl26 (x : BitVec 32) : IntKind.u32.wrap (w32 x * (67108864 : Int)) = w32 (x <<< 26) := w32_shl x 26
@[go_sem] theorem w32_shr26 (x : BitVec 32) : w32 x / (67108864 : Int) = w32 (x >>> 26) := w32_shr x 26
@[go_sem] theorem w32_shl27 (x : BitVec 32) : IntKind.u32.wrap (w32 x * (134217728 : Int)) = w32 (x <<< 27) := w32_shl x 27
@[go_sem] theorem w32_shr27 (x : BitVec 32) : w32 x / (134217728 : Int) = w32 (x >>> 27) := w32_shr x 27
@[go_sem] theorem w32_shl28 (x : BitVec 32) : IntKind.u32.wrap (w32 x * (268435456 : Int)) = w32 (x <<< 28) := w32_shl x 28
@[go_sem] theorem w32_shr28 (x : BitVec 32) : w32 x / (268435456 : Int) = w32 (x >>> 28) := w32_shr x 28
@[go_sem] theorem w32_shl29 (x : BitVec 32) : IntKind.u32.wrap (w32 x * (536870912 : Int)) = w32 (x <<< 29) := w32_shl x 29
@[go_sem] theorem w32_shr29 (x : BitVec 32) : w32 x / (536870912 : Int) = w32 (x >>> 29) := w32_shr x 29
@[go_sem] theorem w32_shl30 (x : BitVec 32) : IntKind.u32.wrap (w32 x * (1073741824 : Int)) = w32 (x <<< 30) := w32_shl x 30
@[go_sem] theorem w32_shr30 (x : BitVec 32) : w32 x / (1073741824 : Int) = w32 (x >>> 30) := w32_shr x 30
@[go_sem] theorem w32_shl31 (x : BitVec 32) : IntKind.u32.wrap (w32 x * (2147483648 : Int)) = w32 (x <<< 31) := w32_shl x 31
@[go_sem] theorem w32_shr31 (x : BitVec 32) : w32 x / (2147483648 : Int) = w32 (x >>> 31) := w32_shr x 31

/-- A word of 64 bits as the number that the model holds. -/
def w64 (x : BitVec 64) : Int := (x.toNat : Int)
theorem w64_def (x : BitVec 64) : w64 x = (x.toNat : Int) := rfl
theorem w64_nonneg (x : BitVec 64) : 0 ≤ w64 x := by unfold w64; omega
theorem w64_lt (x : BitVec 64) : w64 x < 18446744073709551616 := by have := x.isLt; unfold w64; omega
theorem w64_inj {x y : BitVec 64} (h : w64 x = w64 y) : x = y := by unfold w64 at h; exact BitVec.eq_of_toNat_eq (by omega)
@[go_sem] theorem w64_beq (x y : BitVec 64) : (w64 x == w64 y) = (x == y) := by
  rw [Bool.eq_iff_iff]; simp only [beq_iff_eq]; exact ⟨w64_inj, fun h => by rw [h]⟩
@[go_sem] theorem w64_bne (x y : BitVec 64) : (w64 x != w64 y) = (x != y) := by simp only [bne, w64_beq]
theorem w64_ofInt (x : BitVec 64) : BitVec.ofInt 64 (w64 x) = x := by unfold w64; rw [BitVec.ofInt_natCast]; simp
theorem w64_wrap (x : BitVec 64) : IntKind.u64.wrap (w64 x) = w64 x := by
  have := w64_lt x; have := w64_nonneg x; simp only [IntKind.wrap, IntKind.bits, IntKind.signed]; simp; omega
theorem w64_wrap_eq (n : Int) : IntKind.u64.wrap n = w64 (BitVec.ofInt 64 n) := by
  simp only [IntKind.wrap, IntKind.bits, IntKind.signed, w64, BitVec.toNat_ofInt]; simp; omega
theorem w64_ofNat (k : Nat) : w64 (BitVec.ofNat 64 k) = ((k % 18446744073709551616 : Nat) : Int) := by simp [w64]
@[go_sem] theorem w64_xor (x y : BitVec 64) : bits .xor .u64 (w64 x) (w64 y) = w64 (x ^^^ y) := by
  simp only [bits, IntKind.bits, w64_ofInt]; exact w64_wrap _
@[go_sem] theorem w64_or (x y : BitVec 64) : bits .or .u64 (w64 x) (w64 y) = w64 (x ||| y) := by
  simp only [bits, IntKind.bits, w64_ofInt]; exact w64_wrap _
@[go_sem] theorem w64_and (x y : BitVec 64) : bits .and .u64 (w64 x) (w64 y) = w64 (x &&& y) := by
  simp only [bits, IntKind.bits, w64_ofInt]; exact w64_wrap _
theorem w64_xor_lit (x : BitVec 64) (k : Int) : bits .xor .u64 (w64 x) k = w64 (x ^^^ BitVec.ofInt 64 k) := by
  simp only [bits, IntKind.bits, w64_ofInt]; exact w64_wrap _
theorem w64_and_lit (x : BitVec 64) (k : Int) : bits .and .u64 (w64 x) k = w64 (x &&& BitVec.ofInt 64 k) := by
  simp only [bits, IntKind.bits, w64_ofInt]; exact w64_wrap _
theorem w64_or_lit (x : BitVec 64) (k : Int) : bits .or .u64 (w64 x) k = w64 (x ||| BitVec.ofInt 64 k) := by
  simp only [bits, IntKind.bits, w64_ofInt]; exact w64_wrap _
@[go_sem] theorem w64_add (x y : BitVec 64) : IntKind.u64.wrap (w64 x + w64 y) = w64 (x + y) := by
  simp only [IntKind.wrap, IntKind.bits, IntKind.signed, w64, BitVec.toNat_add]; simp
theorem w64_mul_lit (x : BitVec 64) (k : Nat) : IntKind.u64.wrap (w64 x * k) = w64 (x * BitVec.ofNat 64 k) := by
  simp only [IntKind.wrap, IntKind.bits, IntKind.signed, w64, BitVec.toNat_mul, BitVec.toNat_ofNat]; simp
theorem w64_shl (x : BitVec 64) (k : Nat) : IntKind.u64.wrap (w64 x * ((2 ^ k : Nat) : Int)) = w64 (x <<< k) := by
  simp only [IntKind.wrap, IntKind.bits, IntKind.signed, w64, BitVec.toNat_shiftLeft, Nat.shiftLeft_eq]; simp
theorem w64_shr (x : BitVec 64) (k : Nat) : w64 x / ((2 ^ k : Nat) : Int) = w64 (x >>> k) := by
  simp only [w64, BitVec.toNat_ushiftRight, Nat.shiftRight_eq_div_pow]; exact (Int.natCast_ediv _ _).symm

@[go_sem] theorem w64_shl1 (x : BitVec 64) : IntKind.u64.wrap (w64 x * (2 : Int)) = w64 (x <<< 1) := w64_shl x 1
@[go_sem] theorem w64_shr1 (x : BitVec 64) : w64 x / (2 : Int) = w64 (x >>> 1) := w64_shr x 1
@[go_sem] theorem w64_shl2 (x : BitVec 64) : IntKind.u64.wrap (w64 x * (4 : Int)) = w64 (x <<< 2) := w64_shl x 2
@[go_sem] theorem w64_shr2 (x : BitVec 64) : w64 x / (4 : Int) = w64 (x >>> 2) := w64_shr x 2
@[go_sem] theorem w64_shl3 (x : BitVec 64) : IntKind.u64.wrap (w64 x * (8 : Int)) = w64 (x <<< 3) := w64_shl x 3
@[go_sem] theorem w64_shr3 (x : BitVec 64) : w64 x / (8 : Int) = w64 (x >>> 3) := w64_shr x 3
@[go_sem] theorem w64_shl4 (x : BitVec 64) : IntKind.u64.wrap (w64 x * (16 : Int)) = w64 (x <<< 4) := w64_shl x 4
@[go_sem] theorem w64_shr4 (x : BitVec 64) : w64 x / (16 : Int) = w64 (x >>> 4) := w64_shr x 4
@[go_sem] theorem w64_shl5 (x : BitVec 64) : IntKind.u64.wrap (w64 x * (32 : Int)) = w64 (x <<< 5) := w64_shl x 5
@[go_sem] theorem w64_shr5 (x : BitVec 64) : w64 x / (32 : Int) = w64 (x >>> 5) := w64_shr x 5
@[go_sem] theorem w64_shl6 (x : BitVec 64) : IntKind.u64.wrap (w64 x * (64 : Int)) = w64 (x <<< 6) := w64_shl x 6
@[go_sem] theorem w64_shr6 (x : BitVec 64) : w64 x / (64 : Int) = w64 (x >>> 6) := w64_shr x 6
@[go_sem] theorem w64_shl7 (x : BitVec 64) : IntKind.u64.wrap (w64 x * (128 : Int)) = w64 (x <<< 7) := w64_shl x 7
@[go_sem] theorem w64_shr7 (x : BitVec 64) : w64 x / (128 : Int) = w64 (x >>> 7) := w64_shr x 7
@[go_sem] theorem w64_shl8 (x : BitVec 64) : IntKind.u64.wrap (w64 x * (256 : Int)) = w64 (x <<< 8) := w64_shl x 8
@[go_sem] theorem w64_shr8 (x : BitVec 64) : w64 x / (256 : Int) = w64 (x >>> 8) := w64_shr x 8
@[go_sem] theorem w64_shl9 (x : BitVec 64) : IntKind.u64.wrap (w64 x * (512 : Int)) = w64 (x <<< 9) := w64_shl x 9
@[go_sem] theorem w64_shr9 (x : BitVec 64) : w64 x / (512 : Int) = w64 (x >>> 9) := w64_shr x 9
@[go_sem] theorem w64_shl10 (x : BitVec 64) : IntKind.u64.wrap (w64 x * (1024 : Int)) = w64 (x <<< 10) := w64_shl x 10
@[go_sem] theorem w64_shr10 (x : BitVec 64) : w64 x / (1024 : Int) = w64 (x >>> 10) := w64_shr x 10
@[go_sem] theorem w64_shl11 (x : BitVec 64) : IntKind.u64.wrap (w64 x * (2048 : Int)) = w64 (x <<< 11) := w64_shl x 11
@[go_sem] theorem w64_shr11 (x : BitVec 64) : w64 x / (2048 : Int) = w64 (x >>> 11) := w64_shr x 11
@[go_sem] theorem w64_shl12 (x : BitVec 64) : IntKind.u64.wrap (w64 x * (4096 : Int)) = w64 (x <<< 12) := w64_shl x 12
@[go_sem] theorem w64_shr12 (x : BitVec 64) : w64 x / (4096 : Int) = w64 (x >>> 12) := w64_shr x 12
@[go_sem] theorem w64_shl13 (x : BitVec 64) : IntKind.u64.wrap (w64 x * (8192 : Int)) = w64 (x <<< 13) := w64_shl x 13
@[go_sem] theorem w64_shr13 (x : BitVec 64) : w64 x / (8192 : Int) = w64 (x >>> 13) := w64_shr x 13
@[go_sem] theorem w64_shl14 (x : BitVec 64) : IntKind.u64.wrap (w64 x * (16384 : Int)) = w64 (x <<< 14) := w64_shl x 14
@[go_sem] theorem w64_shr14 (x : BitVec 64) : w64 x / (16384 : Int) = w64 (x >>> 14) := w64_shr x 14
@[go_sem] theorem w64_shl15 (x : BitVec 64) : IntKind.u64.wrap (w64 x * (32768 : Int)) = w64 (x <<< 15) := w64_shl x 15
@[go_sem] theorem w64_shr15 (x : BitVec 64) : w64 x / (32768 : Int) = w64 (x >>> 15) := w64_shr x 15
@[go_sem] theorem w64_shl16 (x : BitVec 64) : IntKind.u64.wrap (w64 x * (65536 : Int)) = w64 (x <<< 16) := w64_shl x 16
@[go_sem] theorem w64_shr16 (x : BitVec 64) : w64 x / (65536 : Int) = w64 (x >>> 16) := w64_shr x 16
@[go_sem] theorem w64_shl17 (x : BitVec 64) : IntKind.u64.wrap (w64 x * (131072 : Int)) = w64 (x <<< 17) := w64_shl x 17
@[go_sem] theorem w64_shr17 (x : BitVec 64) : w64 x / (131072 : Int) = w64 (x >>> 17) := w64_shr x 17
@[go_sem] theorem w64_shl18 (x : BitVec 64) : IntKind.u64.wrap (w64 x * (262144 : Int)) = w64 (x <<< 18) := w64_shl x 18
@[go_sem] theorem w64_shr18 (x : BitVec 64) : w64 x / (262144 : Int) = w64 (x >>> 18) := w64_shr x 18
@[go_sem] theorem w64_shl19 (x : BitVec 64) : IntKind.u64.wrap (w64 x * (524288 : Int)) = w64 (x <<< 19) := w64_shl x 19
@[go_sem] theorem w64_shr19 (x : BitVec 64) : w64 x / (524288 : Int) = w64 (x >>> 19) := w64_shr x 19
@[go_sem] theorem w64_shl20 (x : BitVec 64) : IntKind.u64.wrap (w64 x * (1048576 : Int)) = w64 (x <<< 20) := w64_shl x 20
@[go_sem] theorem w64_shr20 (x : BitVec 64) : w64 x / (1048576 : Int) = w64 (x >>> 20) := w64_shr x 20
@[go_sem] theorem w64_shl21 (x : BitVec 64) : IntKind.u64.wrap (w64 x * (2097152 : Int)) = w64 (x <<< 21) := w64_shl x 21
@[go_sem] theorem w64_shr21 (x : BitVec 64) : w64 x / (2097152 : Int) = w64 (x >>> 21) := w64_shr x 21
@[go_sem] theorem w64_shl22 (x : BitVec 64) : IntKind.u64.wrap (w64 x * (4194304 : Int)) = w64 (x <<< 22) := w64_shl x 22
@[go_sem] theorem w64_shr22 (x : BitVec 64) : w64 x / (4194304 : Int) = w64 (x >>> 22) := w64_shr x 22
@[go_sem] theorem w64_shl23 (x : BitVec 64) : IntKind.u64.wrap (w64 x * (8388608 : Int)) = w64 (x <<< 23) := w64_shl x 23
@[go_sem] theorem w64_shr23 (x : BitVec 64) : w64 x / (8388608 : Int) = w64 (x >>> 23) := w64_shr x 23
@[go_sem] theorem w64_shl24 (x : BitVec 64) : IntKind.u64.wrap (w64 x * (16777216 : Int)) = w64 (x <<< 24) := w64_shl x 24
@[go_sem] theorem w64_shr24 (x : BitVec 64) : w64 x / (16777216 : Int) = w64 (x >>> 24) := w64_shr x 24
@[go_sem] theorem w64_shl25 (x : BitVec 64) : IntKind.u64.wrap (w64 x * (33554432 : Int)) = w64 (x <<< 25) := w64_shl x 25
@[go_sem] theorem w64_shr25 (x : BitVec 64) : w64 x / (33554432 : Int) = w64 (x >>> 25) := w64_shr x 25
@[go_sem] theorem w64_shl26 (x : BitVec 64) : IntKind.u64.wrap (w64 x * (67108864 : Int)) = w64 (x <<< 26) := w64_shl x 26
@[go_sem] theorem w64_shr26 (x : BitVec 64) : w64 x / (67108864 : Int) = w64 (x >>> 26) := w64_shr x 26
@[go_sem] theorem w64_shl27 (x : BitVec 64) : IntKind.u64.wrap (w64 x * (134217728 : Int)) = w64 (x <<< 27) := w64_shl x 27
@[go_sem] theorem w64_shr27 (x : BitVec 64) : w64 x / (134217728 : Int) = w64 (x >>> 27) := w64_shr x 27
@[go_sem] theorem w64_shl28 (x : BitVec 64) : IntKind.u64.wrap (w64 x * (268435456 : Int)) = w64 (x <<< 28) := w64_shl x 28
@[go_sem] theorem w64_shr28 (x : BitVec 64) : w64 x / (268435456 : Int) = w64 (x >>> 28) := w64_shr x 28
@[go_sem] theorem w64_shl29 (x : BitVec 64) : IntKind.u64.wrap (w64 x * (536870912 : Int)) = w64 (x <<< 29) := w64_shl x 29
@[go_sem] theorem w64_shr29 (x : BitVec 64) : w64 x / (536870912 : Int) = w64 (x >>> 29) := w64_shr x 29
@[go_sem] theorem w64_shl30 (x : BitVec 64) : IntKind.u64.wrap (w64 x * (1073741824 : Int)) = w64 (x <<< 30) := w64_shl x 30
@[go_sem] theorem w64_shr30 (x : BitVec 64) : w64 x / (1073741824 : Int) = w64 (x >>> 30) := w64_shr x 30
@[go_sem] theorem w64_shl31 (x : BitVec 64) : IntKind.u64.wrap (w64 x * (2147483648 : Int)) = w64 (x <<< 31) := w64_shl x 31
@[go_sem] theorem w64_shr31 (x : BitVec 64) : w64 x / (2147483648 : Int) = w64 (x >>> 31) := w64_shr x 31
@[go_sem] theorem w64_shl32 (x : BitVec 64) : IntKind.u64.wrap (w64 x * (4294967296 : Int)) = w64 (x <<< 32) := w64_shl x 32
@[go_sem] theorem w64_shr32 (x : BitVec 64) : w64 x / (4294967296 : Int) = w64 (x >>> 32) := w64_shr x 32
@[go_sem] theorem w64_shl33 (x : BitVec 64) : IntKind.u64.wrap (w64 x * (8589934592 : Int)) = w64 (x <<< 33) := w64_shl x 33
@[go_sem] theorem w64_shr33 (x : BitVec 64) : w64 x / (8589934592 : Int) = w64 (x >>> 33) := w64_shr x 33
@[go_sem] theorem w64_shl34 (x : BitVec 64) : IntKind.u64.wrap (w64 x * (17179869184 : Int)) = w64 (x <<< 34) := w64_shl x 34
@[go_sem] theorem w64_shr34 (x : BitVec 64) : w64 x / (17179869184 : Int) = w64 (x >>> 34) := w64_shr x 34
@[go_sem] theorem w64_shl35 (x : BitVec 64) : IntKind.u64.wrap (w64 x * (34359738368 : Int)) = w64 (x <<< 35) := w64_shl x 35
@[go_sem] theorem w64_shr35 (x : BitVec 64) : w64 x / (34359738368 : Int) = w64 (x >>> 35) := w64_shr x 35
@[go_sem] theorem w64_shl36 (x : BitVec 64) : IntKind.u64.wrap (w64 x * (68719476736 : Int)) = w64 (x <<< 36) := w64_shl x 36
@[go_sem] theorem w64_shr36 (x : BitVec 64) : w64 x / (68719476736 : Int) = w64 (x >>> 36) := w64_shr x 36
@[go_sem] theorem w64_shl37 (x : BitVec 64) : IntKind.u64.wrap (w64 x * (137438953472 : Int)) = w64 (x <<< 37) := w64_shl x 37
@[go_sem] theorem w64_shr37 (x : BitVec 64) : w64 x / (137438953472 : Int) = w64 (x >>> 37) := w64_shr x 37
@[go_sem] theorem w64_shl38 (x : BitVec 64) : IntKind.u64.wrap (w64 x * (274877906944 : Int)) = w64 (x <<< 38) := w64_shl x 38
@[go_sem] theorem w64_shr38 (x : BitVec 64) : w64 x / (274877906944 : Int) = w64 (x >>> 38) := w64_shr x 38
@[go_sem] theorem w64_shl39 (x : BitVec 64) : IntKind.u64.wrap (w64 x * (549755813888 : Int)) = w64 (x <<< 39) := w64_shl x 39
@[go_sem] theorem w64_shr39 (x : BitVec 64) : w64 x / (549755813888 : Int) = w64 (x >>> 39) := w64_shr x 39
@[go_sem] theorem w64_shl40 (x : BitVec 64) : IntKind.u64.wrap (w64 x * (1099511627776 : Int)) = w64 (x <<< 40) := w64_shl x 40
@[go_sem] theorem w64_shr40 (x : BitVec 64) : w64 x / (1099511627776 : Int) = w64 (x >>> 40) := w64_shr x 40
@[go_sem] theorem w64_shl41 (x : BitVec 64) : IntKind.u64.wrap (w64 x * (2199023255552 : Int)) = w64 (x <<< 41) := w64_shl x 41
@[go_sem] theorem w64_shr41 (x : BitVec 64) : w64 x / (2199023255552 : Int) = w64 (x >>> 41) := w64_shr x 41
@[go_sem] theorem w64_shl42 (x : BitVec 64) : IntKind.u64.wrap (w64 x * (4398046511104 : Int)) = w64 (x <<< 42) := w64_shl x 42
@[go_sem] theorem w64_shr42 (x : BitVec 64) : w64 x / (4398046511104 : Int) = w64 (x >>> 42) := w64_shr x 42
@[go_sem] theorem w64_shl43 (x : BitVec 64) : IntKind.u64.wrap (w64 x * (8796093022208 : Int)) = w64 (x <<< 43) := w64_shl x 43
@[go_sem] theorem w64_shr43 (x : BitVec 64) : w64 x / (8796093022208 : Int) = w64 (x >>> 43) := w64_shr x 43
@[go_sem] theorem w64_shl44 (x : BitVec 64) : IntKind.u64.wrap (w64 x * (17592186044416 : Int)) = w64 (x <<< 44) := w64_shl x 44
@[go_sem] theorem w64_shr44 (x : BitVec 64) : w64 x / (17592186044416 : Int) = w64 (x >>> 44) := w64_shr x 44
@[go_sem] theorem w64_shl45 (x : BitVec 64) : IntKind.u64.wrap (w64 x * (35184372088832 : Int)) = w64 (x <<< 45) := w64_shl x 45
@[go_sem] theorem w64_shr45 (x : BitVec 64) : w64 x / (35184372088832 : Int) = w64 (x >>> 45) := w64_shr x 45
@[go_sem] theorem w64_shl46 (x : BitVec 64) : IntKind.u64.wrap (w64 x * (70368744177664 : Int)) = w64 (x <<< 46) := w64_shl x 46
@[go_sem] theorem w64_shr46 (x : BitVec 64) : w64 x / (70368744177664 : Int) = w64 (x >>> 46) := w64_shr x 46
@[go_sem] theorem w64_shl47 (x : BitVec 64) : IntKind.u64.wrap (w64 x * (140737488355328 : Int)) = w64 (x <<< 47) := w64_shl x 47
@[go_sem] theorem w64_shr47 (x : BitVec 64) : w64 x / (140737488355328 : Int) = w64 (x >>> 47) := w64_shr x 47
@[go_sem] theorem w64_shl48 (x : BitVec 64) : IntKind.u64.wrap (w64 x * (281474976710656 : Int)) = w64 (x <<< 48) := w64_shl x 48
@[go_sem] theorem w64_shr48 (x : BitVec 64) : w64 x / (281474976710656 : Int) = w64 (x >>> 48) := w64_shr x 48
@[go_sem] theorem w64_shl49 (x : BitVec 64) : IntKind.u64.wrap (w64 x * (562949953421312 : Int)) = w64 (x <<< 49) := w64_shl x 49
@[go_sem] theorem w64_shr49 (x : BitVec 64) : w64 x / (562949953421312 : Int) = w64 (x >>> 49) := w64_shr x 49
@[go_sem] theorem w64_shl50 (x : BitVec 64) : IntKind.u64.wrap (w64 x * (1125899906842624 : Int)) = w64 (x <<< 50) := w64_shl x 50
@[go_sem] theorem w64_shr50 (x : BitVec 64) : w64 x / (1125899906842624 : Int) = w64 (x >>> 50) := w64_shr x 50
@[go_sem] theorem w64_shl51 (x : BitVec 64) : IntKind.u64.wrap (w64 x * (2251799813685248 : Int)) = w64 (x <<< 51) := w64_shl x 51
@[go_sem] theorem w64_shr51 (x : BitVec 64) : w64 x / (2251799813685248 : Int) = w64 (x >>> 51) := w64_shr x 51
@[go_sem] theorem w64_shl52 (x : BitVec 64) : IntKind.u64.wrap (w64 x * (4503599627370496 : Int)) = w64 (x <<< 52) := w64_shl x 52
@[go_sem] theorem w64_shr52 (x : BitVec 64) : w64 x / (4503599627370496 : Int) = w64 (x >>> 52) := w64_shr x 52
@[go_sem] theorem w64_shl53 (x : BitVec 64) : IntKind.u64.wrap (w64 x * (9007199254740992 : Int)) = w64 (x <<< 53) := w64_shl x 53
@[go_sem] theorem w64_shr53 (x : BitVec 64) : w64 x / (9007199254740992 : Int) = w64 (x >>> 53) := w64_shr x 53
@[go_sem] theorem w64_shl54 (x : BitVec 64) : IntKind.u64.wrap (w64 x * (18014398509481984 : Int)) = w64 (x <<< 54) := w64_shl x 54
@[go_sem] theorem w64_shr54 (x : BitVec 64) : w64 x / (18014398509481984 : Int) = w64 (x >>> 54) := w64_shr x 54
@[go_sem] theorem w64_shl55 (x : BitVec 64) : IntKind.u64.wrap (w64 x * (36028797018963968 : Int)) = w64 (x <<< 55) := w64_shl x 55
@[go_sem] theorem w64_shr55 (x : BitVec 64) : w64 x / (36028797018963968 : Int) = w64 (x >>> 55) := w64_shr x 55
@[go_sem] theorem w64_shl56 (x : BitVec 64) : IntKind.u64.wrap (w64 x * (72057594037927936 : Int)) = w64 (x <<< 56) := w64_shl x 56
@[go_sem] theorem w64_shr56 (x : BitVec 64) : w64 x / (72057594037927936 : Int) = w64 (x >>> 56) := w64_shr x 56
@[go_sem] theorem w64_shl57 (x : BitVec 64) : IntKind.u64.wrap (w64 x * (144115188075855872 : Int)) = w64 (x <<< 57) := w64_shl x 57
@[go_sem] theorem w64_shr57 (x : BitVec 64) : w64 x / (144115188075855872 : Int) = w64 (x >>> 57) := w64_shr x 57
@[go_sem] theorem w64_shl58 (x : BitVec 64) : IntKind.u64.wrap (w64 x * (288230376151711744 : Int)) = w64 (x <<< 58) := w64_shl x 58
@[go_sem] theorem w64_shr58 (x : BitVec 64) : w64 x / (288230376151711744 : Int) = w64 (x >>> 58) := w64_shr x 58
@[go_sem] theorem w64_shl59 (x : BitVec 64) : IntKind.u64.wrap (w64 x * (576460752303423488 : Int)) = w64 (x <<< 59) := w64_shl x 59
@[go_sem] theorem w64_shr59 (x : BitVec 64) : w64 x / (576460752303423488 : Int) = w64 (x >>> 59) := w64_shr x 59
@[go_sem] theorem w64_shl60 (x : BitVec 64) : IntKind.u64.wrap (w64 x * (1152921504606846976 : Int)) = w64 (x <<< 60) := w64_shl x 60
@[go_sem] theorem w64_shr60 (x : BitVec 64) : w64 x / (1152921504606846976 : Int) = w64 (x >>> 60) := w64_shr x 60
@[go_sem] theorem w64_shl61 (x : BitVec 64) : IntKind.u64.wrap (w64 x * (2305843009213693952 : Int)) = w64 (x <<< 61) := w64_shl x 61
@[go_sem] theorem w64_shr61 (x : BitVec 64) : w64 x / (2305843009213693952 : Int) = w64 (x >>> 61) := w64_shr x 61
@[go_sem] theorem w64_shl62 (x : BitVec 64) : IntKind.u64.wrap (w64 x * (4611686018427387904 : Int)) = w64 (x <<< 62) := w64_shl x 62
@[go_sem] theorem w64_shr62 (x : BitVec 64) : w64 x / (4611686018427387904 : Int) = w64 (x >>> 62) := w64_shr x 62
@[go_sem] theorem w64_shl63 (x : BitVec 64) : IntKind.u64.wrap (w64 x * (9223372036854775808 : Int)) = w64 (x <<< 63) := w64_shl x 63
@[go_sem] theorem w64_shr63 (x : BitVec 64) : w64 x / (9223372036854775808 : Int) = w64 (x >>> 63) := w64_shr x 63
end Go.Proofs.Ytbncejmohhejlaa
