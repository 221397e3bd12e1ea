/- What is proved here: the walks of the reference of sealed commands: eight, number, sum, Seal. -/
import Derived.Test.YtincoocagfegfaaU4
set_option linter.unusedVariables false
set_option linter.unusedSimpArgs false
namespace Go.Proofs.Ytincoocagfegfaa
open Go.RowKit
theorem be8_cons (n : BitVec 64) (k : Nat) (h : k < 8) : (be8 n).drop (8 - (k + 1)) = beByte n (7 - k) :: (be8 n).drop (8 - k) := by
  rw [List.drop_eq_getElem_cons (by simp [be8]; omega)]
  have e1 : 8 - (k + 1) + 1 = 8 - k := by omega
  have e2 : 8 - (k + 1) = 7 - k := by omega
  rw [e1]
  congr 1
  simp [be8, e2]
theorem w64_div (n : BitVec 64) (k : Nat) : w64 (n >>> k) = w64 n / 2 ^ k := by
  have := w64_shr n k
  have h2 : ((2 ^ k : Nat) : Int) = 2 ^ k := by simp
  rw [← this, h2]
theorem div_256 (n : BitVec 64) (k : Nat) : w64 (n >>> (8 * k)) / 256 = w64 (n >>> (8 * (k + 1))) := by
  have h := w64_div (n >>> (8 * k)) 8
  rw [← BitVec.shiftRight_add, show 8 * k + 8 = 8 * (k + 1) by omega] at h
  rw [h]; rfl
theorem mod_256 (n : BitVec 64) (k : Nat) (hk : k < 8) : w64 (n >>> (8 * k)) % 256 = ((beByte n (7 - k)).toNat : Int) := by
  rw [beByte, ← wrap_u8_w64, IntKind.wrap_u8', show 7 - (7 - k) = k by omega]
set_option maxHeartbeats 2000000 in
set_option maxRecDepth 100000 in
theorem qeight_any (n : BitVec 64) (w : World) : Calls Try.prog 21 #[.int .u64 (w64 n)] w fun e w' => e = .returned (strOf (be8 n)) ∧ Below w.heap.size w w' := by
  go_enter Try.func21, Try.ntmps21
  go_wp2_with fail
  go_loopw [0, 3, 4] (fun nv out i wr => ∃ k : Nat, k ≤ 8 ∧ i = .int .i64 k ∧ nv = .int .u64 (w64 (n >>> (8 * k))) ∧ out = .string ⟨((be8 n).drop (8 - k)).toArray⟩ ∧ Below w.heap.size w wr) (fun _ _ i _ => 8 - (intOf i).toNat)
  case atStart => exact ⟨0, by omega, rfl, by simp, by simp [be8], Below.refl _ _⟩
  case round =>
    obtain ⟨k, hk, rfl, rfl, rfl, hL⟩ := hrel
    have HL := Lib.hid hL; clear hL
    by_cases hlt : k < 8
    · obtain ⟨z, hz⟩ : ∃ z, z = w64 (n >>> (8 * k)) := ⟨_, rfl⟩
      have hz0 : 0 ≤ z := by rw [hz]; unfold w64; omega
      have hz1 : z ≤ 18446744073709551615 := by rw [hz]; unfold w64; have := (n >>> (8 * k)).isLt; omega
      have HZ1 := Lib.hid (show chB (z % 256) = beByte n (7 - k) by
        have := mod_256 n k hlt
        rw [hz, this]; unfold chB; simp)
      have HZ2 := Lib.hid (show z / 256 = w64 (n >>> (8 * (k + 1))) by rw [hz]; exact div_256 n k)
      rw [← hz]
      clear hz
      obtain ⟨t, ht⟩ : ∃ t : ByteArray, t = ⟨((be8 n).drop (8 - k)).toArray⟩ := ⟨_, rfl⟩
      have hts : t.size ≤ 8 := by
        have : t.data.toList.length = t.size := by simp
        rw [← this, ht]; simp [be8]
      rw [← ht]
      have HTT := Lib.hid ht
      clear ht
      have hcv := bytes1_string wr (z % 256) (by omega) (by omega)
      go_wp2_with fail
      go_roundw
      case rel => exact ⟨k + 1, by omega, by go_num, by rw [← HZ2.out], by rw [be8_cons n k hlt, ← HZ1.out, HTT.out]; exact congrArg Value.string (by apply ByteArray.ext; simp), HL.out.alloc HL.out.size _⟩
      case measure => simp [intOf]; omega
    · obtain rfl : k = 8 := by omega
      go_wp2_with fail
      go_ret
      exact ⟨by simp [strOf], HL.out⟩
set_option maxHeartbeats 4000000 in
set_option maxRecDepth 100000 in
theorem qsum_any (key : ByteArray) (ch : Int) (b : ByteArray) (w : World) (hk : key.size = 16) (h0 : 0 ≤ ch) (h1 : ch ≤ 7) (hb : b.size ≤ 1000000) :
    Calls Try.prog 22 #[.string key, .int .i64 ch, .string b] w fun e w' => e = .returned (strOf (sumL key.data.toList ch b.data.toList)) ∧ Below w.heap.size w w' := by
  have hcv := bytes1_string w ch h0 (by omega)
  obtain ⟨m, hm⟩ : ∃ m : ByteArray, m = ⟨#[chB ch]⟩ ++ b := ⟨_, rfl⟩
  have hml : m.data.toList = chB ch :: b.data.toList := by rw [hm]; simp
  have hms : m.size ≤ 1000001 := by have := congrArg List.length hml; simp at this; omega
  have HS := Lib.hid (fun w => rSum_any key m w hk (by omega))
  rw [hml] at HS
  have HM := Lib.hid hm
  obtain ⟨n, hn⟩ : ∃ n, n = keyedSum key.data.toList (chB ch :: b.data.toList) := ⟨_, rfl⟩
  rw [← hn] at HS
  have HN := Lib.hid hn
  have HL := Lib.hid ((Below.refl w.heap.size w).alloc (Nat.le_refl _) (Obj.cells #[.int .u8 ch] 5))
  clear hm hml hn hk
  go_enter Try.func22, Try.ntmps22
  go_wp2_with fail
  rw [← HM.out]
  refine (HS.out _).mono ?_
  rintro e w1 ⟨rfl, hL⟩
  replace HL := Lib.hid (HL.out.trans (hL.mono HL.out.size))
  clear hL hcv
  go_wp2_with fail
  refine (qeight_any n _).mono ?_
  rintro e w2 ⟨rfl, hL⟩
  replace HL := Lib.hid (HL.out.trans (hL.mono HL.out.size))
  clear hL
  unfold strOf
  go_wp2_with fail
  go_ret
  exact ⟨by rw [HN.out]; rfl, HL.out⟩
end Go.Proofs.Ytincoocagfegfaa
