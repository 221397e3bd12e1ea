/- What is proved here: walks of Sum16, Sum32, Close16, Open16. -/
import Derived.Test.YtdahabokhmgplaaC2
set_option linter.unusedVariables false
set_option linter.unusedSimpArgs false
namespace Go.Proofs.Ytdahabokhmgplaa
open Go.RowKit
attribute [local go_sem] wrap_u8_w16 wrap_u8_w32
set_option maxHeartbeats 1000000 in
theorem Sum16_any (b : ByteArray) (w : World) (hb : b.size ≤ 1000000000) : Calls Try.prog 10 #[.string b] w fun e w' => e = .returned (.int .u16 (w16 (sum16 b.data.toList))) ∧ Below w.heap.size w w' := by
  go_enter Try.func10, Try.ntmps10
  go_wp2_with fail
  refine (Next16_any 0xffff#16 b _ hb).mono ?_
  rintro e w1 ⟨rfl, hL⟩
  have HL := Lib.hid hL; clear hL
  go_wp2_with fail
  go_ret
  exact ⟨rfl, HL.out⟩
set_option maxHeartbeats 1000000 in
theorem Sum32_any (b : ByteArray) (w : World) (hb : b.size ≤ 1000000000) : Calls Try.prog 12 #[.string b] w fun e w' => e = .returned (.int .u32 (w32 (sum32 b.data.toList))) ∧ Below w.heap.size w w' := by
  go_enter Try.func12, Try.ntmps12
  go_wp2_with fail
  refine (Next32_any 0#32 b _ hb).mono ?_
  rintro e w1 ⟨rfl, hL⟩
  have HL := Lib.hid hL; clear hL
  go_wp2_with fail
  go_ret
  exact ⟨rfl, HL.out⟩
def crcBytes (s : BitVec 16) : List UInt8 := [loB (s >>> 8), loB s]
def closed (l : List UInt8) : List UInt8 := l ++ crcBytes (sum16 l)
theorem bytes2_string (W : World) (c d : UInt8) :
    (convert 38 9 (.slice (some ⟨W.heap.size, 0, none⟩) 2 2)).run Try.prog (W.alloc (.cells #[.int .u8 (c.toNat : Int), .int .u8 (d.toNat : Int)] 5)) = .ok (.string ⟨#[c, d]⟩) (W.alloc (.cells #[.int .u8 (c.toNat : Int), .int .u8 (d.toNat : Int)] 5)) :=
  run_string (base := W.heap.size) (xs := [c, d]) (.inr ⟨W.heap.size, 2, _, _, rfl, Nat.le_refl _, heap_alloc_new W _, .inl rfl, Nat.le_refl _, by decide, rfl, rfl⟩)
set_option maxHeartbeats 1000000 in
theorem Close16_any (b : ByteArray) (w : World) (hb : b.size ≤ 1000000) : Calls Try.prog 23 #[.string b] w fun e w' => e = .returned (strOf (closed b.data.toList)) ∧ Below w.heap.size w w' := by
  go_enter Try.func23, Try.ntmps23
  go_wp2_with fail
  refine (Sum16_any b _ (by omega)).mono ?_
  obtain ⟨s, hs⟩ : ∃ s, s = sum16 b.data.toList := ⟨_, rfl⟩
  rw [← hs]
  rintro e w1 ⟨rfl, hL⟩
  have HL := Lib.hid hL; have HS := Lib.hid hs; clear hL hs
  have hcv := bytes2_string w1 (loB (s >>> 8)) (loB s)
  go_wp2_with fail
  go_ret
  refine ⟨?_, HL.out.alloc HL.out.size _⟩
  show Ending.returned (.string (b ++ ⟨#[loB (s >>> 8), loB s]⟩)) = _
  rw [str_append, closed, ← HS.out]; rfl
def opens (s : ByteArray) : Bool := decide (2 ≤ s.size) && (closed (s.data.toList.take (s.size - 2)) == s.data.toList)
def open16V (s : ByteArray) : Value := if opens s then .tuple #[strOf (s.data.toList.take (s.size - 2)), .int .i64 0] else .tuple #[strOf [], .int .i64 6]
set_option maxHeartbeats 1000000 in
theorem Open16_any (s : ByteArray) (w : World) (hb : s.size ≤ 1000000) : Calls Try.prog 24 #[.string s] w fun e w' => e = .returned (open16V s) ∧ Below w.heap.size w w' := by
  by_cases h2 : 2 ≤ s.size
  · have hd : decide ((s.size : Int) - 2 < 0) = false := by simp; omega
    have hex : (s.extract 0 (s.size - 2)).data.toList = s.data.toList.take (s.size - 2) := by simp
    by_cases ho : closed (s.data.toList.take (s.size - 2)) = s.data.toList
    · have hv : open16V s = .tuple #[strOf (s.data.toList.take (s.size - 2)), .int .i64 0] := by rw [open16V, opens, if_pos]; simp [h2, ho]
      have HV := Lib.hid hv; have HO := Lib.hid ho; have HX := Lib.hid hex; clear hv ho hex
      go_enter Try.func24, Try.ntmps24
      go_wp2_with fail
      refine (Close16_any (s.extract 0 (s.size - 2)) _ (by simp; omega)).mono ?_
      rw [HX.out, HO.out, ← str_of]
      rintro e w1 ⟨rfl, hL⟩
      have HL := Lib.hid hL; clear hL
      go_wp2_with fail
      go_ret2
      exact ⟨by rw [HV.out, ← extract_str]; rfl, HL.out⟩
    · have hv : open16V s = .tuple #[strOf [], .int .i64 6] := by rw [open16V, opens, if_neg]; simp [h2, ho]
      have hne : (closed (s.data.toList.take (s.size - 2)) == s.toList) = false := by rw [toList_data]; simpa using ho
      obtain ⟨r, hr⟩ : ∃ r, r = closed (s.data.toList.take (s.size - 2)) := ⟨_, rfl⟩
      rw [← hr] at hne
      have HV := Lib.hid hv; have HR := Lib.hid hr; have HX := Lib.hid hex; clear hv ho hr hex
      go_enter Try.func24, Try.ntmps24
      go_wp2_with fail
      refine (Close16_any (s.extract 0 (s.size - 2)) _ (by simp; omega)).mono ?_
      rw [HX.out, ← HR.out]
      rintro e w1 ⟨rfl, hL⟩
      have HL := Lib.hid hL; clear hL
      unfold strOf
      go_wp2_with fail
      go_ret2
      exact ⟨HV.out.symm ▸ rfl, HL.out⟩
  · have hd : decide ((s.size : Int) - 2 < 0) = true := by simp; omega
    have hv : open16V s = .tuple #[strOf [], .int .i64 6] := by rw [open16V, opens, if_neg]; simp [h2]
    have HV := Lib.hid hv; clear hv
    go_enter Try.func24, Try.ntmps24
    go_wp2_with fail
    go_ret2
    exact ⟨HV.out.symm ▸ rfl, Below.refl _ _⟩
end Go.Proofs.Ytdahabokhmgplaa
