/- What is proved here: walks of the small functions that lay numbers into bytes and read them. -/
import Derived.Test.YtbncejmohhejlaaT1
import Derived.Test.YtbncejmohhejlaaC3
import Derived.Test.YtbncejmohhejlaaC6
import Derived.Laws.MakeOwn
set_option linter.unusedVariables false
set_option linter.unusedSimpArgs false
namespace Go.Proofs.Ytbncejmohhejlaa
open Go.RowKit
def be2 (n : Nat) : List UInt8 := [UInt8.ofNat (n / 256), UInt8.ofNat n]
theorem be2_take (n k : Nat) (hk : k < 2) : (be2 n).take (k + 1) = (be2 n).take k ++ [UInt8.ofNat (n / 2 ^ (8 * (1 - k)))] := by
  match k, hk with
  | 0, _ => simp [be2]
  | 1, _ => simp [be2]
theorem u8_of_nat (n : Nat) : IntKind.u8.wrap (n : Int) = ((UInt8.ofNat n).toNat : Int) := by
  rw [IntKind.wrap_u8', UInt8.toNat_ofNat']; omega
/-- Two bytes of a row, as a number. -/
def num2 (l : List UInt8) (i : Nat) : Nat := (l.getD i 0).toNat * 256 + (l.getD (i + 1) 0).toNat
theorem num2_lt (l : List UInt8) (i : Nat) : num2 l i < 65536 := by
  have := (l.getD i 0).toNat_lt; have := (l.getD (i + 1) 0).toNat_lt; unfold num2; omega
/-- The bytes of a string as a number, the highest first. -/
def num64 (l : List UInt8) : BitVec 64 := l.foldl (fun a c => a <<< 8 ||| z8 c) 0#64
theorem num64_snoc (l : List UInt8) (c : UInt8) : num64 (l ++ [c]) = num64 l <<< 8 ||| z8 c := by simp [num64, List.foldl_append]
theorem num64_two (c d : UInt8) : w64 (num64 [c, d]) = (c.toNat * 256 + d.toNat : Nat) := by
  have hc := c.toNat_lt
  have hd := d.toNat_lt
  have h : num64 [c, d] = BitVec.ofNat 64 (c.toNat * 256 + d.toNat) := by
    have e1 : num64 [c, d] = z8 c <<< 8 ||| z8 d := by simp [num64]
    rw [e1]
    apply BitVec.eq_of_toNat_eq
    have hs : c.toNat <<< 8 = c.toNat * 256 := by rw [Nat.shiftLeft_eq]
    have ho : c.toNat <<< 8 ||| d.toNat = c.toNat * 256 + d.toNat := by rw [← Nat.shiftLeft_add_eq_or_of_lt (by omega), hs]
    have h1 : c.toNat % 18446744073709551616 = c.toNat := by omega
    have h2 : d.toNat % 18446744073709551616 = d.toNat := by omega
    have h3 : c.toNat <<< 8 % 18446744073709551616 = c.toNat <<< 8 := by rw [hs]; omega
    simp only [z8, BitVec.toNat_or, BitVec.toNat_shiftLeft, BitVec.toNat_ofNat]
    simp only [Nat.reducePow, h1, h2, h3, ho]
    omega
  rw [h]; unfold w64; simp; omega
set_option maxHeartbeats 2000000 in
set_option maxRecDepth 100000 in
theorem appended_any (base : Nat) (v : Value) (xs : List UInt8) (n : Nat) (w : World) (hn : n < 65536) (hb : base ≤ w.heap.size) (hx : xs.length ≤ 1000000) (hR : Row w base v xs) :
    Calls Try.prog 62 #[v, .int .u64 n, .int .i64 2] w fun e w' => ∃ v', e = .returned v' ∧ Row w' base v' (xs ++ be2 n) ∧ Below base w w' := by
  have HR := Lib.hid hR; clear hR
  go_enter Try.func62, Try.ntmps62
  go_wp2_with fail
  go_loopw [0, 7] (fun out i wr => ∃ k : Nat, k ≤ 2 ∧ i = .int .i64 ((1 : Int) - k) ∧ Below base w wr ∧ Row wr base out (xs ++ (be2 n).take k)) (fun _ i _ => (intOf i + 1).toNat)
  case atStart => exact ⟨0, by omega, by simp, Below.refl _ _, by simpa using HR.out⟩
  case round =>
    obtain ⟨k, hk, rfl, hL, hR⟩ := hrel
    have HL := Lib.hid hL; clear hL
    have HR := Lib.hid hR; clear hR
    by_cases hlt : k < 2
    · obtain ⟨l, hl⟩ : ∃ l, l = xs ++ (be2 n).take k := ⟨_, rfl⟩
      have HR := HR.out
      rw [← hl] at HR
      have hlen : l.length ≤ xs.length + 2 := by rw [hl]; simp [be2]; omega
      have Hl := Lib.hid hl; clear hl
      obtain ⟨oa, oc, rfl⟩ := row_form HR
      have hl3 := HL.out.size
      have HR0 := Lib.hid HR; clear HR
      go_wp2_with (at_builtin; refine append_byte _ rfl _ _ rfl base _ _ rfl (row_keep HR0.out ((Keep.refl [] _).alloc _) (fun _ _ => by simp)) wr.heap.size (UInt8.ofNat (n / 2 ^ (8 * (1 - k)))) rfl ?c1 ?c2 ?c3 ?_)
      case c1 =>
        have e : ((n : Int) / 2 ^ (8 * (1 - k)) % 256) = ((UInt8.ofNat (n / 2 ^ (8 * (1 - k)))).toNat : Int) := by
          rw [UInt8.toNat_ofNat']
          simp
        rw [e]
        exact (Blk.new wr [vb (UInt8.ofNat (n / 2 ^ (8 * (1 - k))))] 5).cell 0
      case c2 => omega
      case c3 => simp; omega
      intro v2 w2 hR2 hK2
      have K2 := ((Keep.refl _ wr).alloc _).trans hK2
      have L2 := HL.out.trans (K2.toBelowAt (by omega) (fun i hi => by rw [Option.mem_toList] at hi; exact (row_lt HR0.out i hi).1))
      have HR2 := Lib.hid hR2; have HL2 := Lib.hid L2
      clear hR2 hK2 K2 L2 hlen
      go_wp2_with fail
      go_roundw
      case rel => exact ⟨k + 1, by omega, by rw [show (1 - (k : Int) - 1) = 1 - ((k + 1 : Nat) : Int) by omega], HL2.out, by rw [be2_take n k hlt, ← List.append_assoc, ← Hl.out]; exact HR2.out⟩
      case measure => simp [intOf]; omega
    · obtain rfl : k = 2 := by omega
      go_wp2_with fail
      go_ret
      refine ⟨_, rfl, ?_, HL.out⟩
      simpa [be2] using HR.out
theorem make_row (w : World) (c : Nat) (ci : Int) (h : ci = c) (hc : c ≤ 1000000) : ∃ cur, (Instr.makeSlice 51 (.int .i64 0) (.int .i64 ci)).run Try.prog w = .ok (.slice (some ⟨w.heap.size, 0, none⟩) 0 c) (w.alloc (.cells cur 5)) ∧
    Row (w.alloc (.cells cur 5)) w.heap.size (.slice (some ⟨w.heap.size, 0, none⟩) 0 c) [] := by
  obtain ⟨i0, hi, hz0, hz1, hz2⟩ := info_parts info_u8
  subst h
  have hr := run_make (P := Try.prog) w 51 5 i0 _ Try.underlying51 hi hz0 .i64 .i64 0 c (Int.le_refl _) (by omega) (by rw [hz2]; omega) (by omega)
  simp only [Int.toNat_zero, Int.toNat_natCast] at hr
  refine ⟨_, hr, .inr ⟨w.heap.size, c, _, (0, 0), rfl, Nat.le_refl _, heap_alloc_new w _, .inl rfl, Nat.zero_le _, ?_, ?_, ?_⟩⟩
  · unfold maxLen; omega
  · rw [size_madeCells, hz1]; omega
  · simp
end Go.Proofs.Ytbncejmohhejlaa
