/- What is proved here: the walk of Seal and Open of the keyed sums. -/
import Derived.Test.YtplfiadgfjkfkaaK6
namespace Go.Proofs.Ytplfiadgfjkfkaa
open Go.RowKit
/-- Byte j of a number of eight bytes, the highest first. -/
def beByte (n : BitVec 64) (j : Nat) : UInt8 := lo8 (n >>> (8 * (7 - j)))
def be8 (n : BitVec 64) : List UInt8 := (List.range 8).map (beByte n)
theorem be8_take (n : BitVec 64) (j : Nat) (h : j < 8) : (be8 n).take (j + 1) = (be8 n).take j ++ [beByte n j] := by
  rw [List.take_succ_eq_append_getElem (by simpa [be8] using h)]; simp [be8]
theorem beByte_int (n : BitVec 64) (k : Nat) : w64 n / 2 ^ (8 * (7 - k)) % 256 = ((beByte n k).toNat : Int) := by
  have h := w64_shr n (8 * (7 - k))
  have h2 : ((2 ^ (8 * (7 - k)) : Nat) : Int) = 2 ^ (8 * (7 - k)) := by simp
  rw [h2] at h
  rw [h, beByte, ← wrap_u8_w64, IntKind.wrap_u8']
attribute [local go_sem] run_bytes bytes_size
set_option maxHeartbeats 2000000 in
theorem Seal_ok (key b : ByteArray) (w : World) (hk : key.size = 16) (hb : b.size ≤ 140737488355000) :
    Calls Try.prog 12 #[.string key, .string b] w fun e w' => e = .returned (.tuple #[strOf (b.data.toList ++ be8 (keyedSum key.data.toList b.data.toList)), .int .i64 0]) ∧ Below w.heap.size w w' := by
  have Hk := Lib.hid hk; clear hk
  go_enter Try.func12, Try.ntmps12
  go_wp2_with fail
  refine (Sum_ok key b _ Hk.out (by omega)).mono ?_
  obtain ⟨n, hn⟩ : ∃ n, n = keyedSum key.data.toList b.data.toList := ⟨_, rfl⟩
  rw [← hn]
  rintro e w1 ⟨rfl, hL1⟩
  have HN := Lib.hid hn; clear hn
  have HL1 := Lib.hid hL1; clear hL1
  go_wp2_with fail
  go_loopw [8, 9] (fun out i wr => ∃ k : Nat, k ≤ 8 ∧ i = .int .i64 (8 * ((7 : Int) - k)) ∧ Below w.heap.size w wr ∧ Row wr w.heap.size out (b.data.toList ++ (be8 n).take k)) (fun _ i _ => (intOf i + 8).toNat)
  case atStart =>
    exact ⟨0, by omega, by simp, HL1.out.trans ((bytes_keep w1 b).toBelowAt HL1.out.size (by simp)), by simpa using row_mono (bytes_row w1 b (by omega)) HL1.out.size⟩
  case round =>
    obtain ⟨k, hk, rfl, hL, hR⟩ := hrel
    have HL := Lib.hid hL; clear hL
    have HR := Lib.hid hR; clear hR
    by_cases hlt : k < 8
    · obtain ⟨l, hl⟩ : ∃ l, l = b.data.toList ++ (be8 n).take k := ⟨_, rfl⟩
      have HR := HR.out
      rw [← hl] at HR
      have hlen : l.length ≤ b.size + 8 := by rw [hl]; simp [be8]; omega
      have Hl := Lib.hid hl; clear hl
      obtain ⟨oa, oc, rfl⟩ := row_form HR
      have hl3 := HL.out.size
      have HR0 := Lib.hid HR; clear HR
      go_wp2_with (at_builtin; refine append_byte _ rfl _ _ rfl w.heap.size _ _ rfl (row_keep HR0.out ((Keep.refl [] _).alloc _) (fun _ _ => by simp)) wr.heap.size (beByte n k) rfl ?c1 ?c2 ?c3 ?_)
      case c1 => simp [vb, beByte_int]
      case c2 => omega
      case c3 => simp; omega
      intro v2 w2 hR2 hK2
      have K2 := ((Keep.refl _ wr).alloc _).trans hK2
      have L2 := HL.out.trans (K2.toBelowAt hl3 (fun i hi => by rw [Option.mem_toList] at hi; exact (row_lt HR0.out i hi).1))
      have HR2 := Lib.hid hR2; have HL2 := Lib.hid L2
      clear hR2 hK2 K2 L2 hlen
      go_wp2_with fail
      go_roundw
      case rel => exact ⟨k + 1, by omega, by rw [show (8 * (7 - (k : Int)) - 8) = 8 * (7 - ((k + 1 : Nat) : Int)) by omega], HL2.out, by rw [be8_take n k hlt, ← List.append_assoc, ← Hl.out]; exact HR2.out⟩
      case measure => simp [intOf]; omega
    · obtain rfl : k = 8 := by omega
      have hcv := run_string HR.out
      go_wp2_with fail
      go_ret2
      refine ⟨?_, HL.out⟩
      have e8 : List.take 8 (be8 n) = be8 n := List.take_of_length_le (by simp [be8])
      rw [← HN.out, strOf]
      simp [e8]
set_option maxHeartbeats 2000000 in
theorem Seal_bad (key b : ByteArray) (w : World) (hk : key.size ≠ 16) :
    Calls Try.prog 12 #[.string key, .string b] w fun e w' => e = .returned (.tuple #[strOf [], .int .i64 2]) ∧ Below w.heap.size w w' := by
  go_enter Try.func12, Try.ntmps12
  go_wp2_with fail
  refine (Sum_bad key b _ hk).mono ?_
  rintro e w1 ⟨rfl, hL1⟩
  have HL1 := Lib.hid hL1; clear hL1
  go_wp2_with fail
  go_ret2
  exact ⟨rfl, HL1.out⟩
end Go.Proofs.Ytplfiadgfjkfkaa
