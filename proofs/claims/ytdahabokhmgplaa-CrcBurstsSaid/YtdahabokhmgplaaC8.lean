/- What is proved here: walks of the reference: joining, closing, opening. -/
import Derived.Test.YtdahabokhmgplaaC7
set_option linter.unusedVariables false
set_option linter.unusedSimpArgs false
namespace Go.Proofs.Ytdahabokhmgplaa
open Go.RowKit
theorem not16x (a : BitVec 16) : bits .xor .u16 (w16 a) 65535 = w16 (~~~ a) := by
  rw [show (65535 : Int) = w16 65535#16 by decide, w16_xor]; congr 1; rw [show (65535#16 : BitVec 16) = BitVec.allOnes 16 by decide, BitVec.xor_allOnes]
attribute [local go_sem] not16x wrap_u8_w16 wrap_u8_w32 not16 not32
theorem rSum16_any (b : ByteArray) (w : World) (hb : b.size ≤ 1000000000) : Calls Try.prog 11 #[.string b] w fun e w' => e = .returned (.int .u16 (w16 (sum16 b.data.toList))) ∧ Below w.heap.size w w' :=
  (rSum16 b w hb).mono (fun e w' h => ⟨h.1, h.2 ▸ Below.refl _ _⟩)
set_option maxHeartbeats 2000000 in
theorem rJoin16_bad (a b : BitVec 16) (n : Int) (w : World) (hn : n < 0 ∨ 1073741824 < n) :
    Calls Try.prog 19 #[.int .u16 (w16 a), .int .u16 (w16 b), .int .i64 n] w fun e w' => e = .returned (.tuple #[.int .u16 0, .int .i64 2]) ∧ Below w.heap.size w w' := by
  rcases hn with hn | hn
  · have h1 : decide (n < 0) = true := by simpa using hn
    go_enter Try.func19, Try.ntmps19
    go_wp2_with fail
    go_ret2
    exact ⟨rfl, Below.refl _ _⟩
  · have h1 : decide (n < 0) = false := by simp; omega
    have h2 : decide (1073741824 < n) = true := by simpa using hn
    go_enter Try.func19, Try.ntmps19
    go_wp2_with fail
    go_ret2
    exact ⟨rfl, Below.refl _ _⟩
set_option maxHeartbeats 2000000 in
theorem rJoin16_ok (a b : BitVec 16) (n : Nat) (w : World) (hn : n ≤ 1073741824) :
    Calls Try.prog 19 #[.int .u16 (w16 a), .int .u16 (w16 b), .int .i64 n] w fun e w' => e = .returned (.tuple #[.int .u16 (w16 (b ^^^ iter zb16 n (~~~ a))), .int .i64 0]) ∧ Below w.heap.size w w' := by
  have h1 : decide ((n : Int) < 0) = false := by simp
  have h2 : decide ((1073741824 : Int) < (n : Int)) = false := by simp; omega
  go_enter Try.func19, Try.ntmps19
  go_wp2_with fail
  refine (rzeros16 (~~~ a) n hn _).mono ?_
  rintro e w1 ⟨rfl, hL⟩
  have HL := Lib.hid hL; clear hL
  go_wp2_with fail
  go_ret2
  exact ⟨rfl, HL.out⟩
set_option maxHeartbeats 2000000 in
theorem rJoin32_bad (a b : BitVec 32) (n : Int) (w : World) (hn : n < 0 ∨ 1073741824 < n) :
    Calls Try.prog 21 #[.int .u32 (w32 a), .int .u32 (w32 b), .int .i64 n] w fun e w' => e = .returned (.tuple #[.int .u32 0, .int .i64 2]) ∧ Below w.heap.size w w' := by
  rcases hn with hn | hn
  · have h1 : decide (n < 0) = true := by simpa using hn
    go_enter Try.func21, Try.ntmps21
    go_wp2_with fail
    go_ret2
    exact ⟨rfl, Below.refl _ _⟩
  · have h1 : decide (n < 0) = false := by simp; omega
    have h2 : decide (1073741824 < n) = true := by simpa using hn
    go_enter Try.func21, Try.ntmps21
    go_wp2_with fail
    go_ret2
    exact ⟨rfl, Below.refl _ _⟩
set_option maxHeartbeats 2000000 in
theorem rJoin32_ok (a b : BitVec 32) (n : Nat) (w : World) (hn : n ≤ 1073741824) :
    Calls Try.prog 21 #[.int .u32 (w32 a), .int .u32 (w32 b), .int .i64 n] w fun e w' => e = .returned (.tuple #[.int .u32 (w32 (b ^^^ iter zb32 n a)), .int .i64 0]) ∧ Below w.heap.size w w' := by
  have h1 : decide ((n : Int) < 0) = false := by simp
  have h2 : decide ((1073741824 : Int) < (n : Int)) = false := by simp; omega
  go_enter Try.func21, Try.ntmps21
  go_wp2_with fail
  refine (rzeros32 a n hn _).mono ?_
  rintro e w1 ⟨rfl, hL⟩
  have HL := Lib.hid hL; clear hL
  go_wp2_with fail
  go_ret2
  exact ⟨rfl, HL.out⟩
set_option maxHeartbeats 1000000 in
theorem rClose16 (b : ByteArray) (w : World) (hb : b.size ≤ 1000000) : Calls Try.prog 26 #[.string b] w fun e w' => e = .returned (strOf (closed b.data.toList)) ∧ Below w.heap.size w w' := by
  go_enter Try.func26, Try.ntmps26
  go_wp2_with fail
  refine (rSum16_any b _ (by omega)).mono ?_
  obtain ⟨s, hs⟩ : ∃ s, s = sum16 b.data.toList := ⟨_, rfl⟩
  rw [← hs]
  rintro e w1 ⟨rfl, hL⟩
  have HL := Lib.hid hL; have HS := Lib.hid hs; clear hL hs
  have hcv := bytes2_string w1 (loB (s >>> 8)) (loB s)
  go_wp2_with fail
  go_ret
  refine ⟨?_, HL.out.alloc HL.out.size _⟩
  show Ending.returned (.string (b ++ ⟨#[loB (s >>> 8), loB s]⟩)) = _
  rw [str_append, closed, ← HS.out]; rfl
set_option maxHeartbeats 1000000 in
theorem rOpen16 (s : ByteArray) (w : World) (hb : s.size ≤ 1000000) : Calls Try.prog 25 #[.string s] w fun e w' => e = .returned (open16V s) ∧ Below w.heap.size w w' := by
  by_cases h2 : 2 ≤ s.size
  · have hd : decide ((s.size : Int) - 2 < 0) = false := by simp; omega
    have hex : (s.extract 0 (s.size - 2)).data.toList = s.data.toList.take (s.size - 2) := by simp
    by_cases ho : closed (s.data.toList.take (s.size - 2)) = s.data.toList
    · have hv : open16V s = .tuple #[strOf (s.data.toList.take (s.size - 2)), .int .i64 0] := by rw [open16V, opens, if_pos]; simp [h2, ho]
      have HV := Lib.hid hv; have HO := Lib.hid ho; have HX := Lib.hid hex; clear hv ho hex
      go_enter Try.func25, Try.ntmps25
      go_wp2_with fail
      refine (rClose16 (s.extract 0 (s.size - 2)) _ (by simp; omega)).mono ?_
      rw [HX.out, HO.out, ← str_of]
      rintro e w1 ⟨rfl, hL⟩
      have HL := Lib.hid hL; clear hL
      go_wp2_with fail
      go_ret2
      exact ⟨by rw [HV.out, ← extract_str]; rfl, HL.out⟩
    · have hv : open16V s = .tuple #[strOf [], .int .i64 6] := by rw [open16V, opens, if_neg]; simp [h2, ho]
      have hne : (closed (s.data.toList.take (s.size - 2)) == s.toList) = false := by rw [toList_data]; simpa using ho
      obtain ⟨r, hr⟩ : ∃ r, r = closed (s.data.toList.take (s.size - 2)) := ⟨_, rfl⟩
      rw [← hr] at hne
      have HV := Lib.hid hv; have HR := Lib.hid hr; have HX := Lib.hid hex; clear hv ho hr hex
      go_enter Try.func25, Try.ntmps25
      go_wp2_with fail
      refine (rClose16 (s.extract 0 (s.size - 2)) _ (by simp; omega)).mono ?_
      rw [HX.out, ← HR.out]
      rintro e w1 ⟨rfl, hL⟩
      have HL := Lib.hid hL; clear hL
      unfold strOf
      go_wp2_with fail
      go_ret2
      exact ⟨HV.out.symm ▸ rfl, HL.out⟩
  · have hd : decide ((s.size : Int) - 2 < 0) = true := by simp; omega
    have hv : open16V s = .tuple #[strOf [], .int .i64 6] := by rw [open16V, opens, if_neg]; simp [h2]
    have HV := Lib.hid hv; clear hv
    go_enter Try.func25, Try.ntmps25
    go_wp2_with fail
    go_ret2
    exact ⟨HV.out.symm ▸ rfl, Below.refl _ _⟩
end Go.Proofs.Ytdahabokhmgplaa
