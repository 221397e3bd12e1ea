/- What is proved here: walks of the reader of units. -/
import Derived.Test.YtkpgenmlpkfokaaN17
import Derived.Test.YtkpgenmlpkfokaaCl
import Derived.Laws.BitsAllLaws
set_option linter.unusedVariables false
set_option linter.unusedSimpArgs false
namespace Go.Proofs.Ytkpgenmlpkfokaa
open Go.RowKit
attribute [local go_sem] run_bytes bytes_size
set_option maxRecDepth 100000 in
theorem i64_or_nat (a b : Nat) (ha : a < 9223372036854775808) (hb : b < 9223372036854775808) : bits .or .i64 (a : Int) (b : Int) = ((a ||| b : Nat) : Int) := by
  have h := Nat.or_lt_two_pow (x := a) (y := b) (n := 63) (by omega) (by omega)
  show IntKind.i64.wrap ((BitVec.ofInt 64 (a : Int) ||| BitVec.ofInt 64 (b : Int)).toNat : Int) = _
  rw [BitVec.toNat_or, ofInt_u64 a (by omega), ofInt_u64 b (by omega), IntKind.wrap_i64]
  have h2 : a ||| b < 9223372036854775808 := h
  omega
set_option maxRecDepth 100000 in
theorem or_byte (a : Nat) (c : UInt8) (h : a < 1099511627776) : bits .or .i64 ((a : Int) * 256) (c.toNat : Int) = ((a * 256 + c.toNat : Nat) : Int) := by
  have hc := c.toNat_lt
  have e : ((a : Int) * 256) = ((a * 256 : Nat) : Int) := by omega
  rw [e, i64_or_nat _ _ (by omega) (by omega)]
  have := Nat.shiftLeft_add_eq_or_of_lt (b := c.toNat) (i := 8) (by omega) a
  rw [Nat.shiftLeft_eq] at this
  rw [show a * 256 = a * 2 ^ 8 by omega, ← this]
/-- The number that bytes are. -/
def numN (l : List UInt8) : Nat := l.foldl (fun a c => a * 256 + c.toNat) 0
theorem numN_snoc (l : List UInt8) (c : UInt8) : numN (l ++ [c]) = numN l * 256 + c.toNat := by simp [numN, List.foldl_append]
theorem numN_from : ∀ (l : List UInt8) (a : Nat), l.foldl (fun a c => a * 256 + c.toNat) a < (a + 1) * 256 ^ l.length
  | [], a => by simp
  | c :: l, a => by
    have h := numN_from l (a * 256 + c.toNat)
    have hc := c.toNat_lt
    rw [List.foldl_cons, List.length_cons, Nat.pow_succ]
    have h2 : (a * 256 + c.toNat + 1) * 256 ^ l.length ≤ ((a + 1) * 256) * 256 ^ l.length := Nat.mul_le_mul_right _ (by omega)
    rw [Nat.mul_comm (256 ^ l.length) 256, ← Nat.mul_assoc]
    omega
theorem numN_lt (l : List UInt8) : numN l < 256 ^ l.length := by have := numN_from l 0; simpa [numN] using this
/-- A reader gives up. -/
def shortP : List PanicEntry := [{ v := .iface 62 (.agg #[]), recovered := false }]
set_option maxHeartbeats 2000000 in
set_option maxRecDepth 100000 in
theorem rdtake_ok (g : Nat) (b : ByteArray) (n : Nat) (w : World) (hB : Blk w g [.string b] 66) (hn : n ≤ b.size) (hb : b.size ≤ 1000000) :
    Calls Try.prog 68 #[.pointer (some ⟨g, 0, none⟩), .int .i64 (n : Int)] w fun e w' => e = .returned (.string (b.extract 0 n)) ∧ Keep [g] w w' ∧ Blk w' g [.string (b.extract n b.size)] 66 := by
  have HB := Lib.hid hB
  clear hB
  have c0 := HB.out.cell 0
  simp only [List.getElem?_cons_zero, List.getElem?_cons_succ] at c0
  have f0 := HB.out.free 0
  go_enter Try.func68, Try.ntmps68
  go_wp2_with fail
  go_ret
  exact ⟨rfl, (Keep.refl [g] w).setCell (.inl (by simp)) _, HB.out.set 0 _⟩
set_option maxHeartbeats 2000000 in
set_option maxRecDepth 100000 in
theorem rdtake_short (g : Nat) (b : ByteArray) (n : Nat) (w : World) (hB : Blk w g [.string b] 66) (hn : b.size < n) (hb : n ≤ 1000000) :
    Calls Try.prog 68 #[.pointer (some ⟨g, 0, none⟩), .int .i64 (n : Int)] w fun e w' => e = .panicked shortP ∧ w = w' := by
  have HB := Lib.hid hB
  clear hB
  have c0 := HB.out.cell 0
  simp only [List.getElem?_cons_zero, List.getElem?_cons_succ] at c0
  have f0 := HB.out.free 0
  go_enter Try.func68, Try.ntmps68
  go_wp2_with fail
  exact ⟨rfl, rfl, rfl⟩
set_option maxHeartbeats 4000000 in
set_option maxRecDepth 100000 in
theorem rdnumber_ok (g : Nat) (b : ByteArray) (n : Nat) (w : World) (hB : Blk w g [.string b] 66) (hn : n ≤ b.size) (hb : b.size ≤ 1000000) (hn4 : n ≤ 4) :
    Calls Try.prog 34 #[.pointer (some ⟨g, 0, none⟩), .int .i64 (n : Int)] w fun e w' => e = .returned (.int .i64 (numN (b.data.toList.take n))) ∧ Keep [g] w w' ∧ Blk w' g [.string (b.extract n b.size)] 66 := by
  have HT := Lib.hid (rdtake_ok g b n w hB hn hb)
  clear hB
  go_enter Try.func34, Try.ntmps34
  go_wp2_with fail
  refine HT.out.mono ?_
  rintro e w1 ⟨rfl, hK, hB⟩
  obtain ⟨s, hs⟩ : ∃ s, s = b.extract 0 n := ⟨_, rfl⟩
  have hsl : s.data.toList = b.data.toList.take n := by rw [hs]; simp
  have hss : s.size = n := by rw [size_list, hsl]; simp; omega
  rw [← hs]
  have hsz : s.size ≤ 4 := by omega
  have HS := Lib.hid hsl
  clear hs hsl HT
  have hR := bytes_row w1 s (by omega)
  have hK2 := bytes_keep w1 s
  have HB := Lib.hid (hB.keep hK2 (by simp))
  have HK := Lib.hid (hK.trans_new hK2 (by simp))
  have hg : g < w1.heap.size := hB.lt
  clear hB hK hK2 hss
  go_wp2_with fail
  obtain ⟨cap, hcap⟩ : ∃ cap, cap = grownCap w1 s.size 0 5 := ⟨_, rfl⟩
  rw [← hcap] at hR ⊢
  obtain ⟨h, hh⟩ : ∃ h, h = w1.heap.size := ⟨_, rfl⟩
  rw [← hh] at hR ⊢
  have HR := Lib.hid hR
  clear hcap hR
  refine gen_world (fun w' => Keep [g] w w' ∧ Blk w' g [.string (b.extract n b.size)] 66 ∧ Row w' h (.slice (some ⟨h, 0, none⟩) s.size cap) s.data.toList) ⟨HK.out, HB.out, HR.out⟩ ?_
  clear HK HB HR hg hh
  rintro v ⟨hK, hB, hR⟩
  have HK := Lib.hid hK; have HB := Lib.hid hB; have HR := Lib.hid hR
  clear hK hB hR
  go_loopw [5, 13] (fun nv iv wr => ∃ (i d : Nat), i ≤ s.size ∧ iv = .int .i64 i ∧ nv = .int .i64 d ∧ Hid (d = numN (s.data.toList.take i)) ∧ Hid (v = wr)) (fun _ i _ => s.size - (intOf i).toNat)
  case atStart => exact ⟨0, 0, by omega, rfl, rfl, Lib.hid rfl, Lib.hid rfl⟩
  case round =>
    obtain ⟨i, d, hi, rfl, rfl, hd, hv⟩ := hrel
    have hv := hv.out
    subst hv
    by_cases hlt : i < s.size
    · have hil : i < s.data.toList.length := by simpa using hlt
      have c0 := row_byte HR.out i hil
      unfold vb at c0
      have HST := Lib.hid (show numN (s.data.toList.take (i + 1)) = numN (s.data.toList.take i) * 256 + (s.data.toList[i]).toNat by rw [List.take_succ_eq_append_getElem hil, numN_snoc])
      have hdl : d < 256 ^ 4 := by
        rw [hd.out]
        refine Nat.lt_of_lt_of_le (numN_lt _) (Nat.pow_le_pow_right (by omega) ?_)
        rw [List.length_take]; omega
      obtain ⟨c, hc⟩ : ∃ c, c = s.data.toList[i] := ⟨_, rfl⟩
      rw [← hc] at c0 HST
      have hdl2 : d < 1099511627776 := by omega
      have q1 := or_byte d c hdl2
      have hcl := c.toNat_lt
      have q2 : IntKind.i64.wrap (c.toNat : Int) = (c.toNat : Int) := IntWalk.i64_in _ (by omega)
      clear hc hdl
      go_wp2_with fail
      go_roundw
      case rel => exact ⟨i + 1, d * 256 + c.toNat, by omega, by go_num, by go_num, Lib.hid (by rw [HST.out, ← hd.out]), Lib.hid (by first | rfl | trivial)⟩
      case measure => simp [intOf]; omega
    · obtain rfl : i = s.size := by omega
      go_wp2_with fail
      go_ret
      refine ⟨?_, HK.out, HB.out⟩
      have e1 : s.data.toList.take s.size = s.data.toList := List.take_of_length_le (by simp)
      rw [← HS.out, ← e1, ← hd.out]; rfl
set_option maxHeartbeats 4000000 in
set_option maxRecDepth 100000 in
theorem rdnumber_short (g : Nat) (b : ByteArray) (n : Nat) (w : World) (hB : Blk w g [.string b] 66) (hn : b.size < n) (hn4 : n ≤ 4) :
    Calls Try.prog 34 #[.pointer (some ⟨g, 0, none⟩), .int .i64 (n : Int)] w fun e w' => e = .panicked shortP ∧ w = w' := by
  have HT := Lib.hid (rdtake_short g b n w hB hn (by omega))
  clear hB
  go_enter Try.func34, Try.ntmps34
  go_wp2_with fail
  refine HT.out.mono ?_
  rintro e _ ⟨rfl, rfl⟩
  go_wp2_with fail
  exact ⟨rfl, rfl, rfl⟩
set_option maxHeartbeats 4000000 in
set_option maxRecDepth 100000 in
theorem rdrest_any (g : Nat) (b : ByteArray) (w : World) (hB : Blk w g [.string b] 66) (hb : b.size ≤ 1000000) :
    Calls Try.prog 43 #[.pointer (some ⟨g, 0, none⟩)] w fun e w' => e = .returned (.string b) ∧ Keep [g] w w' ∧ Blk w' g [.string ⟨#[]⟩] 66 := by
  have HT := Lib.hid (rdtake_ok g b b.size w hB (Nat.le_refl _) hb)
  have HB := Lib.hid hB
  have e0 : b.extract 0 b.size = b := by
    apply ByteArray.ext; apply Array.ext'; simp
  have e1 : b.extract b.size b.size = ⟨#[]⟩ := by
    apply ByteArray.ext; apply Array.ext'; simp
  rw [e0, e1] at HT
  clear hB e0 e1
  have c0 := HB.out.cell 0
  simp only [List.getElem?_cons_zero, List.getElem?_cons_succ] at c0
  go_enter Try.func43, Try.ntmps43
  go_wp2_with fail
  refine HT.out.mono ?_
  rintro e w1 ⟨rfl, hK, hB⟩
  replace HB := Lib.hid hB
  have HK := Lib.hid hK
  clear hK hB c0
  go_wp2_with fail
  refine (Clone_any b _ hb).mono ?_
  rintro e w2 ⟨rfl, hL⟩
  replace HB := Lib.hid (HB.out.below hL HB.out.lt)
  replace HK := Lib.hid (HK.out.below hL HK.out.size)
  clear hL
  go_wp2_with fail
  go_ret
  exact ⟨rfl, HK.out, HB.out⟩
end Go.Proofs.Ytkpgenmlpkfokaa
