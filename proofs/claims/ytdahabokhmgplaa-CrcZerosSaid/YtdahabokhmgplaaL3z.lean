/- What is proved here: the walk of the law CrcZeros. -/
import Derived.Test.YtdahabokhmgplaaL3
import Derived.Test.YtdahabokhmgplaaKit
set_option linter.unusedVariables false
set_option linter.unusedSimpArgs false
namespace Go.Proofs.Ytdahabokhmgplaa
open Go.RowKit
theorem not16z (a : BitVec 16) : bits .xor .u16 (w16 a) 65535 = w16 (~~~ a) := by
  rw [show (65535 : Int) = w16 65535#16 by decide, w16_xor]; congr 1; rw [show (65535#16 : BitVec 16) = BitVec.allOnes 16 by decide, BitVec.xor_allOnes]
attribute [local go_sem] not16z wrap_u8_w16 wrap_u8_w32 wrap_u16_w32
set_option maxHeartbeats 4000000 in
theorem zeros_walk (a : BitVec 32) (n m : Int) (h1 : -9223372036854775808 ≤ n) (h2 : n ≤ 9223372036854775807) (h3 : -9223372036854775808 ≤ m) (h4 : m ≤ 9223372036854775807) (w : World) : Calls Try.prog 8 #[.int .u32 (w32 a), .int .i64 n, .int .i64 m] w fun e w' => e = .returned (.bool true) ∧ Below w.heap.size w w' := by
  have HL0 := Lib.hid (Below.refl w.heap.size w)
  obtain ⟨k, hk, hk2⟩ : ∃ k : Nat, n % 536870912 = k ∧ k < 536870912 := ⟨(n % 536870912).toNat, by omega, by omega⟩
  obtain ⟨l, hl, hl2⟩ : ∃ l : Nat, m % 536870912 = l ∧ l < 536870912 := ⟨(m % 536870912).toNat, by omega, by omega⟩
  obtain ⟨x, hx⟩ : ∃ x, x = iter zb32 k a := ⟨_, rfl⟩
  obtain ⟨y, hy⟩ : ∃ y, y = iter zb32 l x := ⟨_, rfl⟩
  obtain ⟨p, hp⟩ : ∃ p, p = iter zb16 k (~~~ (a.setWidth 16)) := ⟨_, rfl⟩
  obtain ⟨q, hq⟩ : ∃ q, q = iter zb16 l p := ⟨_, rfl⟩
  have hy2 : iter zb32 (k + l) a = y := by rw [iter_add, ← hx, ← hy]
  have hq2 : iter zb16 (k + l) (~~~ (a.setWidth 16)) = q := by rw [iter_add, ← hp, ← hq]
  have HK := Lib.hid hk; have HL := Lib.hid hl; have HX := Lib.hid hx; have HY := Lib.hid hy; have HP := Lib.hid hp; have HQ := Lib.hid hq; have HY2 := Lib.hid hy2; have HQ2 := Lib.hid hq2
  clear hk hl hx hy hp hq hy2 hq2
  go_enter Try.func8, Try.ntmps8
  go_wp2_with fail
  refine (pick_any n 536870912 _ (by decide) (by decide) h1 h2).mono ?_
  rw [HK.out]
  rintro e w1 ⟨rfl, rfl⟩
  have HL1 := HL0
  go_wp2_with fail
  refine (pick_any m 536870912 _ (by decide) (by decide) h3 h4).mono ?_
  rw [HL.out]
  rintro e w2 ⟨rfl, rfl⟩
  have HL2 := HL1
  go_wp2_with fail
  refine (Join32_ok a 0#32 k _ (by omega)).mono ?_
  rw [← HX.out, BitVec.zero_xor]
  rintro e w3 ⟨rfl, hL⟩
  have HL3 := Lib.hid (HL2.out.trans (hL.mono HL2.out.size)); clear hL
  go_wp2_with fail
  refine (Join32_ok x 0#32 l _ (by omega)).mono ?_
  rw [← HY.out, BitVec.zero_xor]
  rintro e w4 ⟨rfl, hL⟩
  have HL4 := Lib.hid (HL3.out.trans (hL.mono HL3.out.size)); clear hL
  go_wp2_with fail
  refine (Join32_ok a 0#32 (k + l) _ (by omega)).mono ?_
  rw [HY2.out, BitVec.zero_xor]
  rintro e w5 ⟨rfl, hL⟩
  have HL5 := Lib.hid (HL4.out.trans (hL.mono HL4.out.size)); clear hL
  go_wp2_with fail
  refine (Join16_ok (a.setWidth 16) 0#16 k _ (by omega)).mono ?_
  rw [← HP.out, BitVec.zero_xor]
  rintro e w6 ⟨rfl, hL⟩
  have HL6 := Lib.hid (HL5.out.trans (hL.mono HL5.out.size)); clear hL
  go_wp2_with fail
  refine (Join16_ok (~~~ p) 0#16 l _ (by omega)).mono ?_
  rw [BitVec.not_not, ← HQ.out, BitVec.zero_xor]
  rintro e w7 ⟨rfl, hL⟩
  have HL7 := Lib.hid (HL6.out.trans (hL.mono HL6.out.size)); clear hL
  go_wp2_with fail
  refine (Join16_ok (a.setWidth 16) 0#16 (k + l) _ (by omega)).mono ?_
  rw [HQ2.out, BitVec.zero_xor]
  rintro e w8 ⟨rfl, hL⟩
  have HL8 := Lib.hid (HL7.out.trans (hL.mono HL7.out.size)); clear hL
  go_wp2_with fail
  refine (Join16_ok (a.setWidth 16) 0xffff#16 0 _ (by decide)).mono ?_
  rw [show 65535#16 ^^^ iter zb16 0 (~~~ a.setWidth 16) = a.setWidth 16 from by show 65535#16 ^^^ (~~~ a.setWidth 16) = _; rw [show (65535#16 : BitVec 16) = BitVec.allOnes 16 by decide, BitVec.allOnes_xor, BitVec.not_not]]
  rintro e w9 ⟨rfl, hL⟩
  have HL9 := Lib.hid (HL8.out.trans (hL.mono HL8.out.size)); clear hL
  go_wp2_with fail
  refine (Join32_ok a 0#32 0 _ (by decide)).mono ?_
  rw [show 0#32 ^^^ iter zb32 0 a = a from BitVec.zero_xor]
  rintro e w10 ⟨rfl, hL⟩
  have HL10 := Lib.hid (HL9.out.trans (hL.mono HL9.out.size)); clear hL
  go_wp2_with fail
  refine (awake_any _).mono ?_
  rintro e w11 ⟨rfl, hL⟩
  have HL11 := Lib.hid (HL10.out.trans (hL.mono HL10.out.size)); clear hL
  go_wp2_with fail
  go_ret
  exact ⟨rfl, HL11.out⟩
theorem zeros_walk2 (a n m : Int) (h5 : 0 ≤ a) (h6 : a ≤ 4294967295) (h1 : -9223372036854775808 ≤ n) (h2 : n ≤ 9223372036854775807) (h3 : -9223372036854775808 ≤ m) (h4 : m ≤ 9223372036854775807) (w : World) : Calls Try.prog 8 #[.int .u32 a, .int .i64 n, .int .i64 m] w fun e w' => e = .returned (.bool true) ∧ Below w.heap.size w w' := by
  obtain ⟨x, rfl⟩ := w32_of a h5 h6
  exact zeros_walk x n m h1 h2 h3 h4 w
end Go.Proofs.Ytdahabokhmgplaa
