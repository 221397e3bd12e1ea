/- What is proved here: walks of the reference of the checksums: bits, strings. -/
import Derived.Test.YtbncejmohhejlaaC3
set_option linter.unusedVariables false
set_option linter.unusedSimpArgs false
namespace Go.Proofs.Ytbncejmohhejlaa
open Go.RowKit
theorem xor4129 (x : BitVec 16) : bits .xor .u16 (w16 x) 4129 = w16 (x ^^^ 4129#16) := w16_xor_lit x _
theorem xorEdb (x : BitVec 32) : bits .xor .u32 (w32 x) 3988292384 = w32 (x ^^^ 3988292384#32) := w32_xor_lit x _
attribute [local go_sem] not16 not32 xor4129 xorEdb
theorem feed16_eq (r : BitVec 16) (b : Bool) : feed sh16 (e16 0) r b = if r.getLsbD 15 = b then r <<< 1 else r <<< 1 ^^^ 4129#16 := by
  have h1 : (r ^^^ bitOf (e16 0) b).getLsbD 15 = (r.getLsbD 15 ^^ b) := by
    rw [BitVec.getLsbD_xor]; congr 1
    cases b
    · simp [bitOf]
    · decide
  have h2 : (r ^^^ bitOf (e16 0) b) <<< 1 = r <<< 1 := by
    rw [BitVec.shiftLeft_xor_distrib]
    have : bitOf (e16 0) b <<< 1 = 0#16 := by cases b <;> decide
    rw [this, BitVec.xor_zero]
  rw [feed, sh16_eq, h1, h2]
  generalize r.getLsbD 15 = m
  cases m <;> cases b <;> simp
theorem feed32_eq (r : BitVec 32) (b : Bool) : feed sh32 (e32 0) r b = if r.getLsbD 0 = b then r >>> 1 else r >>> 1 ^^^ 3988292384#32 := by
  have h1 : (r ^^^ bitOf (e32 0) b).getLsbD 0 = (r.getLsbD 0 ^^ b) := by
    rw [BitVec.getLsbD_xor]; congr 1
    cases b
    · simp [bitOf]
    · decide
  have h2 : (r ^^^ bitOf (e32 0) b) >>> 1 = r >>> 1 := by
    rw [BitVec.ushiftRight_xor_distrib]
    have : bitOf (e32 0) b >>> 1 = 0#32 := by cases b <;> decide
    rw [this, BitVec.xor_zero]
  rw [feed, sh32_eq, h1, h2]
  generalize r.getLsbD 0 = m
  cases m <;> cases b <;> simp
theorem top16 (r : BitVec 16) : w16 (r >>> 15) = if r.getLsbD 15 then 1 else 0 := by
  have h : r >>> 15 = if r.getLsbD 15 then 1#16 else 0#16 := by
    apply BitVec.eq_of_getLsbD_eq; intro i hi
    rw [BitVec.getLsbD_ushiftRight]
    by_cases h0 : i = 0
    · subst h0; split <;> simp_all
    · rw [BitVec.getLsbD_of_ge _ _ (by omega)]; split <;> simp [h0]
  rw [h]; split <;> decide
theorem low32 (r : BitVec 32) : w32 r % 2 = if r.getLsbD 0 then 1 else 0 := by
  have : r.getLsbD 0 = decide (r.toNat % 2 = 1) := by
    rw [BitVec.getLsbD, Nat.testBit_zero]
  rw [this, w32]
  by_cases h : r.toNat % 2 = 1 <;> simp [h] <;> omega
theorem bit_of (c : UInt8) (k : Nat) : (c.toNat : Int) / 2 ^ k % 2 = if c.toNat.testBit k then 1 else 0 := by
  rw [Nat.testBit_eq_decide_div_mod_eq]
  have h : (c.toNat : Int) / 2 ^ k = ((c.toNat / 2 ^ k : Nat) : Int) := by simp
  rw [h]
  by_cases h2 : c.toNat / 2 ^ k % 2 = 1 <;> simp [h2] <;> omega
theorem div_byte (c : UInt8) (k : Nat) : (0 : Int) ≤ (c.toNat : Int) / 2 ^ k := by
  have h : (c.toNat : Int) / 2 ^ k = ((c.toNat / 2 ^ k : Nat) : Int) := by simp
  rw [h]; exact Int.natCast_nonneg _
theorem wrap16_byte (c : UInt8) : IntKind.u16.wrap (c.toNat : Int) = (c.toNat : Int) := by have := c.toNat_lt; rw [IntKind.wrap_u16]; omega
theorem wrap32_byte (c : UInt8) : IntKind.u32.wrap (c.toNat : Int) = (c.toNat : Int) := by have := c.toNat_lt; rw [IntKind.wrap_u32']; omega
theorem mod32_byte (c : UInt8) : (c.toNat : Int) % 4294967296 = (c.toNat : Int) := by have := c.toNat_lt; omega
attribute [local go_sem] wrap16_byte wrap32_byte mod32_byte
theorem bit_oft (c : UInt8) (k : Nat) : ((c.toNat : Int) / 2 ^ k).tmod 2 = if c.toNat.testBit k then 1 else 0 := by
  rw [Int.tmod_eq_emod_of_nonneg (div_byte c k)]; exact bit_of c k
theorem bitsH_take (c : UInt8) (j : Nat) (h : j < 8) : (bitsH c).take (j + 1) = (bitsH c).take j ++ [c.toNat.testBit (7 - j)] := by
  rw [List.take_succ_eq_append_getElem (by rw [bitsH_length]; exact h)]; simp [bitsH]
theorem bitsL_take (c : UInt8) (j : Nat) (h : j < 8) : (bitsL c).take (j + 1) = (bitsL c).take j ++ [c.toNat.testBit j] := by
  rw [List.take_succ_eq_append_getElem (by rw [bitsL_length]; exact h)]; simp [bitsL]
theorem run_snoc {n : Nat} (sh : BitVec n → BitVec n) (e0 r : BitVec n) (l : List Bool) (b : Bool) : run sh e0 r (l ++ [b]) = feed sh e0 (run sh e0 r l) b := by
  rw [run_append]; rfl
end Go.Proofs.Ytbncejmohhejlaa
