/- What is proved here: walks of Pick and Flip of the statements' own kit. -/
import Derived.Test.YtkpgenmlpkfokaaStr
import Derived.RegionTactic
import Derived.StillTailTactics
import Derived.Test.YtkpgenmlpkfokaaStill
set_option linter.unusedVariables false
set_option linter.unusedSimpArgs false
namespace Go.Proofs.Ytkpgenmlpkfokaa
open Go.RowKit
set_option maxHeartbeats 1000000 in
theorem pick_any (n many : Int) (w : World) (h1 : 1 ≤ many) (h2 : many ≤ 4611686018427387904) (h3 : -9223372036854775808 ≤ n) (h4 : n ≤ 9223372036854775807) :
    Calls Try.prog 22 #[.int .i64 n, .int .i64 many] w fun e w' => e = .returned (.int .i64 (n % many)) ∧ w = w' := by
  have hp := Int.emod_nonneg n (by omega : many ≠ 0)
  have hq := Int.emod_lt_of_pos n (by omega : 0 < many)
  have hr : (n.tmod many = n % many ∧ 0 ≤ n.tmod many) ∨ (n.tmod many + many = n % many ∧ n.tmod many < 0) := by
    have ht := Int.tmod_eq_emod (a := n) (b := many)
    split at ht
    · left; exact ⟨by omega, by omega⟩
    · right
      have : (many.natAbs : Int) = many := Int.natAbs_of_nonneg (by omega)
      exact ⟨by omega, by omega⟩
  rcases hr with ⟨e1, e2⟩ | ⟨e1, e2⟩
  · rw [← e1]
    rw [← e1] at hp hq
    clear e1
    go_enter Try.func22, Try.ntmps22
    go_wp2_with fail
    go_ret
    exact ⟨rfl, rfl⟩
  · rw [← e1]
    rw [← e1] at hp hq
    clear e1
    go_enter Try.func22, Try.ntmps22
    go_wp2_with fail
    go_ret
    exact ⟨rfl, rfl⟩
theorem pow_u8 : ∀ t : Nat, t ≤ 7 → ((1 : UInt8) <<< UInt8.ofNat t).toNat = 2 ^ t := by decide
theorem xor_bit (c : UInt8) (t : Nat) (ht : t ≤ 7) : bits .xor .u8 (c.toNat : Int) (2 ^ t % 256) = ((c ^^^ ((1 : UInt8) <<< UInt8.ofNat t)).toNat : Int) := by
  have h1 : (2 : Int) ^ t % 256 = ((2 ^ t : Nat) : Int) := by
    have : 2 ^ t ≤ 2 ^ 7 := Nat.pow_le_pow_right (by omega) ht
    have h : (2 : Int) ^ t = ((2 ^ t : Nat) : Int) := by simp
    rw [h]; generalize 2 ^ t = p at *; omega
  have h2 : 2 ^ t < 256 := by
    have : 2 ^ t ≤ 2 ^ 7 := Nat.pow_le_pow_right (by omega) ht
    omega
  rw [h1, u8_xor_nat _ _ c.toNat_lt h2, UInt8.toNat_xor, pow_u8 t ht]
/-- One bit of a list of bytes is inverted, counted from the first byte's highest. -/
def flipAt (l : List UInt8) (k : Nat) : List UInt8 := l.set (k / 8) (l.getD (k / 8) 0 ^^^ (1 <<< UInt8.ofNat (7 - k % 8)))
def flipOf (l : List UInt8) (n : Int) : List UInt8 := if l = [] then [] else flipAt l (n % (8 * l.length : Nat)).toNat
attribute [local go_sem] run_bytes bytes_size
set_option maxHeartbeats 2000000 in
set_option maxRecDepth 100000 in
theorem flip_any (s : ByteArray) (n : Int) (w : World) (hs : s.size ≤ 1000000000) (h3 : -9223372036854775808 ≤ n) (h4 : n ≤ 9223372036854775807) :
    Calls Try.prog 23 #[.string s, .int .i64 n] w fun e w' => e = .returned (strOf (flipOf s.data.toList n)) ∧ Below w.heap.size w w' := by
  by_cases h0 : s.data.toList = []
  · have hv : strOf (flipOf s.data.toList n) = .string s := by rw [flipOf, if_pos h0, str_of, h0]
    have HV := Lib.hid hv; clear hv
    have he : s.toList.isEmpty = true := by rw [toList_data, h0]; rfl
    clear h0
    go_enter Try.func23, Try.ntmps23
    go_wp2_with fail
    go_ret
    exact ⟨by rw [HV.out]; rfl, Below.refl _ _⟩
  · have he : s.toList.isEmpty = false := by rw [toList_data]; simpa using h0
    have hpos : 1 ≤ s.size := by
      rcases Nat.eq_zero_or_pos s.size with h | h
      · exact absurd (List.eq_nil_of_length_eq_zero (by simpa using h)) h0
      · exact h
    have H0 := Lib.hid h0; clear h0
    go_enter Try.func23, Try.ntmps23
    go_wp2_with fail
    refine (pick_any n _ _ (by omega) (by omega) h3 h4).mono ?_
    obtain ⟨k, hk⟩ : ∃ k, k = (n % (8 * s.size : Nat)).toNat := ⟨_, rfl⟩
    have hp := Int.emod_nonneg n (by omega : ((8 * s.size : Nat) : Int) ≠ 0)
    have hq := Int.emod_lt_of_pos n (by omega : (0 : Int) < ((8 * s.size : Nat) : Int))
    have hk1 : n % (8 * (s.size : Int)) = k := by
      rw [hk, show (8 * (s.size : Int)) = ((8 * s.size : Nat) : Int) by omega]; exact (Int.toNat_of_nonneg hp).symm
    have hk2 : k < 8 * s.size := by omega
    rw [hk1]
    clear hp hq hk1
    have HK := Lib.hid hk; clear hk
    rintro e w1 ⟨rfl, rfl⟩
    go_wp2_with fail
    obtain ⟨j, hj⟩ : ∃ j, j = k / 8 := ⟨_, rfl⟩
    obtain ⟨r, hr⟩ : ∃ r, r = k % 8 := ⟨_, rfl⟩
    obtain ⟨t, ht⟩ : ∃ t, t = 7 - r := ⟨_, rfl⟩
    have hj2 : j < s.size := by omega
    have ht2 : t ≤ 7 := by omega
    have q1 : IntKind.i64.wrap ((k : Int) / 8) = (j : Int) := by rw [IntWalk.i64_in _ (by omega)]; omega
    have q2 : ((k : Int).tmod 8) = (r : Int) := by
      rw [Int.tmod_eq_emod_of_nonneg (by omega)]; omega
    have q3 : IntKind.i64.wrap (7 - (r : Int)) = (t : Int) := by rw [IntWalk.i64_in _ (by omega)]; omega
    obtain ⟨c, hc⟩ : ∃ c, c = s.data.toList.getD j 0 := ⟨_, rfl⟩
    have hjl : j < s.data.toList.length := by simpa using hj2
    have HJ := Lib.hid hj; clear hj
    have HR := Lib.hid hr; clear hr
    have HT := Lib.hid ht; clear ht
    refine gen_world (fun w' => Below w.heap.size w w' ∧ w.heap.size + 1 ≤ w'.heap.size ∧ Row w' w.heap.size (.slice (some ⟨w.heap.size, 0, none⟩) s.size (grownCap w s.size 0 5)) s.data.toList)
      ⟨(bytes_keep w s).toBelow, by rw [bytes_size]; exact Nat.le_refl _, bytes_row w s (by omega)⟩ ?_
    generalize grownCap w s.size 0 5 = cap
    rintro w1 ⟨hL1, hs1, hR1⟩
    have c0 : w1.cell? ⟨w.heap.size, j, none⟩ = some (.int .u8 (c.toNat : Int)) := by
      rw [row_byte hR1 j hjl, hc, List.getD_eq_getElem?_getD, List.getElem?_eq_getElem hjl]; rfl
    have f0 : w1.frozen? ⟨w.heap.size, j, none⟩ = false := row_free hR1 rfl _ hjl
    obtain ⟨d, hd⟩ : ∃ d, d = c ^^^ ((1 : UInt8) <<< UInt8.ofNat t) := ⟨_, rfl⟩
    have q4 : bits .xor .u8 (c.toNat : Int) (2 ^ t % 256) = (d.toNat : Int) := by rw [hd]; exact xor_bit c t ht2
    have q5 : bits .xor .u8 (c.toNat : Int) (IntKind.u8.wrap (2 ^ t)) = (d.toNat : Int) := by rw [IntKind.wrap_u8']; exact q4
    have hR2 := row_set hR1 j d
    have hcv := run_string (w := (w1.setCell ⟨w.heap.size, j, none⟩ (.int .u8 (d.toNat : Int))).drew) hR2
    have hfin : flipOf s.data.toList n = s.data.toList.set j d := by
      rw [flipOf, if_neg H0.out, flipAt]
      rw [show s.data.toList.length = s.size by simp, ← HK.out, ← HJ.out, ← HR.out, ← HT.out, ← hc, ← hd]
    have HF := Lib.hid hfin
    clear hfin hd hR2
    have hj3 : (j : Int) < (s.size : Int) := by omega
    have hj4 : (0 : Int) ≤ (j : Int) := by omega
    have ht4 : (0 : Int) ≤ (t : Int) := by omega
    have ht5 : (t : Int) ≤ 7 := by omega
    have HR1 := Lib.hid hR1
    have HL1 := Lib.hid hL1
    have HC := Lib.hid hc
    clear hR1 hL1 hc hjl
    refine still_tail 14 (by kernel_rfl) (by kernel_rfl) ?_
    simp only [List.take_succ_cons, List.take_zero, List.drop_succ_cons, List.drop_zero]
    repeat still_step
    refine wpStill_nil ?_
    go_wp2_with fail
    go_ret
    exact ⟨by rw [HF.out, strOf]; rfl, (HL1.out.setCell (Nat.le_refl _) _).drew⟩
end Go.Proofs.Ytkpgenmlpkfokaa
