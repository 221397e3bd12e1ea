/- What is proved here: walks of the small functions of sealed commands. -/
import Derived.Test.YtincoocagfegfaaK11
import Derived.Test.YtincoocagfegfaaC3
import Derived.Test.YtincoocagfegfaaC6
import Derived.Test.YtincoocagfegfaaKit
import Derived.Laws.BitsAllLaws
import Derived.Deep.QuietTactic
import Derived.BigQuiet
set_option linter.unusedVariables false
set_option linter.unusedSimpArgs false
namespace Go.Proofs.Ytincoocagfegfaa
open Go.RowKit
/-- The bytes of a string as a number, the highest first. -/
def num64 (l : List UInt8) : BitVec 64 := l.foldl (fun a c => a <<< 8 ||| z8 c) 0#64
theorem num64_snoc (l : List UInt8) (c : UInt8) : num64 (l ++ [c]) = num64 l <<< 8 ||| z8 c := by simp [num64, List.foldl_append]
set_option maxHeartbeats 1000000 in
set_option maxRecDepth 100000 in
theorem anumber_any (b : ByteArray) (w : World) (hb : b.size ≤ 1000000) : Calls Try.prog 28 #[.string b] w fun e w' => e = .returned (.int .u64 (w64 (num64 b.data.toList))) ∧ w = w' := by
  go_enter Try.func28, Try.ntmps28
  go_wp2_with fail
  go_loop [3, 7] (fun s i => ∃ k : Nat, k ≤ b.size ∧ i = .int .i64 k ∧ s = .int .u64 (w64 (num64 (b.data.toList.take k)))) (fun _ i => b.size - (intOf i).toNat)
  case atStart => exact ⟨0, Nat.zero_le _, rfl, by simp [num64]; rfl⟩
  case round =>
    obtain ⟨i, hi, rfl, rfl⟩ := hrel
    by_cases hlt : i < b.size
    · obtain ⟨s, hs⟩ : ∃ s, s = num64 (b.data.toList.take i) := ⟨_, rfl⟩
      rw [← hs]
      have HS := Lib.hid hs; clear hs
      go_wp2_with fail
      go_round
      case rel => exact ⟨i + 1, by omega, by go_num, by rw [take_succ_str b i hlt, num64_snoc, ← HS.out]⟩
      case measure => simp [intOf]; omega
    · obtain rfl : i = b.size := by omega
      have e1 : b.data.toList.take b.size = b.data.toList := List.take_of_length_le (by simp)
      rw [e1]
      clear e1
      go_wp2_with fail
      go_ret
      exact ⟨rfl, rfl⟩
theorem be8_take_drop (n : BitVec 64) (a j : Nat) (h : j < 8) (ha : a ≤ j) : ((be8 n).take (j + 1)).drop a = ((be8 n).take j).drop a ++ [beByte n j] := by
  rw [be8_take n j h, List.drop_append_of_le_length (by simp [be8]; omega)]
set_option maxHeartbeats 2000000 in
set_option maxRecDepth 100000 in
theorem aapp_any (base : Nat) (v : Value) (xs : List UInt8) (n : BitVec 64) (a : Nat) (m : Int) (w : World) (hm : m = 8 - (a : Int)) (ha : a ≤ 8) (hb : base ≤ w.heap.size) (hx : xs.length ≤ 1000000) (hR : Row w base v xs) :
    Calls Try.prog 19 #[v, .int .u64 (w64 n), .int .i64 m] w fun e w' => ∃ v', e = .returned v' ∧ Row w' base v' (xs ++ (be8 n).drop a) ∧ Below base w w' := by
  have HR := Lib.hid hR; clear hR
  have HM := Lib.hid hm
  have hm2 : 0 ≤ m := by omega
  have hm3 : m ≤ 8 := by omega
  clear hm
  go_enter Try.func19, Try.ntmps19
  go_wp2_with fail
  go_loopw [0, 7] (fun out i wr => ∃ k : Nat, a ≤ k ∧ k ≤ 8 ∧ i = .int .i64 ((7 : Int) - k) ∧ Below base w wr ∧ Row wr base out (xs ++ ((be8 n).take k).drop a)) (fun _ i _ => (intOf i + 1).toNat)
  case atStart => exact ⟨a, Nat.le_refl _, ha, by have := HM.out; go_num, Below.refl _ _, by simpa using HR.out⟩
  case round =>
    obtain ⟨k, hak, hk, rfl, hL, hR⟩ := hrel
    have HL := Lib.hid hL; clear hL
    have HR := Lib.hid hR; clear hR
    by_cases hlt : k < 8
    · obtain ⟨l, hl⟩ : ∃ l, l = xs ++ ((be8 n).take k).drop a := ⟨_, rfl⟩
      have HR := HR.out
      rw [← hl] at HR
      have hlen : l.length ≤ xs.length + 8 := by rw [hl]; simp [be8]; omega
      have Hl := Lib.hid hl; clear hl
      obtain ⟨oa, oc, rfl⟩ := row_form HR
      have hl3 := HL.out.size
      have HR0 := Lib.hid HR; clear HR
      go_wp2_with (at_builtin; refine append_byte _ rfl _ _ rfl base _ _ rfl (row_keep HR0.out ((Keep.refl [] _).alloc _) (fun _ _ => by simp)) wr.heap.size (beByte n k) rfl ?c1 ?c2 ?c3 ?_)
      case c1 => simp [vb, beByte_int]
      case c2 => omega
      case c3 => simp; omega
      intro v2 w2 hR2 hK2
      have K2 := ((Keep.refl _ wr).alloc _).trans hK2
      have L2 := HL.out.trans (K2.toBelowAt (by omega) (fun i hi => by rw [Option.mem_toList] at hi; exact (row_lt HR0.out i hi).1))
      have HR2 := Lib.hid hR2; have HL2 := Lib.hid L2
      clear hR2 hK2 K2 L2 hlen
      go_wp2_with fail
      go_roundw
      case rel => exact ⟨k + 1, by omega, by omega, by rw [show (7 - (k : Int) - 1) = 7 - ((k + 1 : Nat) : Int) by omega], HL2.out, by rw [be8_take_drop n a k hlt hak, ← List.append_assoc, ← Hl.out]; exact HR2.out⟩
      case measure => simp [intOf]; omega
    · obtain rfl : k = 8 := by omega
      go_wp2_with fail
      go_ret
      refine ⟨_, rfl, ?_, HL.out⟩
      have e8 : List.take 8 (be8 n) = be8 n := List.take_of_length_le (by simp [be8])
      rw [← e8]; exact HR.out
theorem or_xor (d a b : UInt8) : bits .or .u8 (d.toNat : Int) (bits .xor .u8 (a.toNat : Int) (b.toNat : Int)) = ((d ||| (a ^^^ b)).toNat : Int) := by
  rw [xor_u8, ix, u8_or_nat _ _ d.toNat_lt (a ^^^ b).toNat_lt, UInt8.toNat_or]
theorem or_zero (d a b : UInt8) : d ||| (a ^^^ b) = 0 ↔ d = 0 ∧ a = b := by
  constructor
  · intro h
    have h1 : d = 0 := by
      have := UInt8.toNat_inj.2 h
      rw [UInt8.toNat_or] at this
      apply UInt8.toNat_inj.1
      exact (Nat.or_eq_zero_iff.1 this).1
    have h2 : a ^^^ b = 0 := by
      have := UInt8.toNat_inj.2 h
      rw [UInt8.toNat_or] at this
      apply UInt8.toNat_inj.1
      exact (Nat.or_eq_zero_iff.1 this).2
    exact ⟨h1, UInt8.xor_eq_zero_iff.1 h2⟩
  · rintro ⟨rfl, rfl⟩; simp
set_option maxHeartbeats 2000000 in
set_option maxRecDepth 100000 in
theorem asame_any (a b : ByteArray) (w : World) (ha : a.size ≤ 1000000) (hab : b.size = a.size) : Calls Try.prog 27 #[.string a, .string b] w fun e w' => e = .returned (.bool (a.data.toList == b.data.toList)) ∧ Below w.heap.size w w' := by
  have hab1 : a.size ≤ b.size := by omega
  have HAB := Lib.hid hab; clear hab
  go_enter Try.func27, Try.ntmps27
  go_wp2_with fail
  go_loopw [5, 9] (fun s i wr => ∃ k : Nat, ∃ d : UInt8, k ≤ a.size ∧ Below w.heap.size w wr ∧ i = .int .i64 k ∧ s = .int .u8 (d.toNat : Int) ∧ (d = 0 ↔ a.data.toList.take k = b.data.toList.take k)) (fun _ i _ => a.size - (intOf i).toNat)
  case atStart => exact ⟨0, 0, Nat.zero_le _, Below.refl _ _, rfl, rfl, by simp⟩
  case round =>
    obtain ⟨i, d, hi, hL, rfl, rfl, hd⟩ := hrel
    have HL := Lib.hid hL; clear hL
    have HD := Lib.hid hd; clear hd
    by_cases hlt : i < a.size
    · have hltb : i < b.size := by omega
      have ho := or_xor d a[i] b[i]
      go_wp2_with fail
      go_quiet (fail)
      go_wp2_with fail
      go_roundw
      case rel => exact ⟨i + 1, d ||| (a[i] ^^^ b[i]), by omega, HL.out.trans ((below_quiet wr _).1.mono HL.out.size), by go_num, by first | rfl | (rw [ho]), by
        rw [take_succ_str a i hlt, take_succ_str b i hltb, or_zero]
        rw [HD.out]
        constructor
        · rintro ⟨h1, h2⟩; rw [h1, h2]
        · intro h
          have hl : (a.data.toList.take i).length = (b.data.toList.take i).length := by simp; omega
          have := List.append_inj h hl
          exact ⟨this.1, by simpa using this.2⟩⟩
      case measure => simp [intOf]; omega
    · obtain rfl : i = a.size := by omega
      have e1 : a.data.toList.take a.size = a.data.toList := List.take_of_length_le (by simp)
      have e2 : b.data.toList.take a.size = b.data.toList := List.take_of_length_le (by have := HAB.out; simp; omega)
      have hd : (((d.toNat : Int) == 0)) = (a.data.toList == b.data.toList) := by
        have := HD.out
        rw [e1, e2] at this
        rw [Bool.eq_iff_iff, beq_iff_eq, beq_iff_eq, ← this]
        constructor
        · intro h; apply UInt8.toNat_inj.1; simpa using h
        · rintro rfl; rfl
      have HD2 := Lib.hid hd
      clear e1 e2 hd
      go_wp2_with fail
      go_ret
      exact ⟨by rw [← HD2.out]; rfl, HL.out⟩
end Go.Proofs.Ytincoocagfegfaa
