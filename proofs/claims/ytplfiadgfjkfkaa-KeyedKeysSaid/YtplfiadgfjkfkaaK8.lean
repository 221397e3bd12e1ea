/- What is proved here: the walk of Open of the keyed sums. -/
import Derived.Test.YtplfiadgfjkfkaaK7
namespace Go.Proofs.Ytplfiadgfjkfkaa
open Go.RowKit
/-- What Seal makes of a string, as bytes. -/
def sealed (key b : List UInt8) : List UInt8 := b ++ be8 (keyedSum key b)
def openOk (key s : ByteArray) : Bool := sealed key.data.toList (s.data.toList.take (s.size - 8)) == s.data.toList
def openV (key s : ByteArray) : Value := if openOk key s then .tuple #[strOf (s.data.toList.take (s.size - 8)), .int .i64 0] else .tuple #[strOf [], .int .i64 6]
set_option maxHeartbeats 2000000 in
theorem Open_key (key s : ByteArray) (w : World) (hk : key.size ≠ 16) (hs : s.size ≤ 140737488355000) :
    Calls Try.prog 14 #[.string key, .string s] w fun e w' => e = .returned (.tuple #[strOf [], .int .i64 2]) ∧ Below w.heap.size w w' := by
  have h1 : ((key.size : Int) != 16) = true := by rw [bne_iff_ne]; omega
  clear hk
  go_enter Try.func14, Try.ntmps14
  go_wp2_with fail
  go_ret2
  exact ⟨rfl, Below.refl _ _⟩
set_option maxHeartbeats 2000000 in
theorem Open_short (key s : ByteArray) (w : World) (hk : key.size = 16) (hs : s.size < 8) :
    Calls Try.prog 14 #[.string key, .string s] w fun e w' => e = .returned (.tuple #[strOf [], .int .i64 6]) ∧ Below w.heap.size w w' := by
  have h1 : ((key.size : Int) != 16) = false := by rw [hk]; rfl
  clear hk
  go_enter Try.func14, Try.ntmps14
  go_wp2_with fail
  go_ret2
  exact ⟨rfl, Below.refl _ _⟩
set_option maxHeartbeats 2000000 in
theorem Open_any (key s : ByteArray) (w : World) (hk : key.size = 16) (hs : 8 ≤ s.size) (hs2 : s.size ≤ 140737488355000) :
    Calls Try.prog 14 #[.string key, .string s] w fun e w' => e = .returned (openV key s) ∧ Below w.heap.size w w' := by
  have h1 : ((key.size : Int) != 16) = false := by rw [hk]; rfl
  have Hk := Lib.hid hk; clear hk
  go_enter Try.func14, Try.ntmps14
  go_wp2_with fail
  refine (Seal_ok key _ _ Hk.out (by simp; omega)).mono ?_
  rintro e w1 ⟨rfl, hL1⟩
  have HL1 := Lib.hid hL1; clear hL1
  have hr : (s.extract 0 (s.size - 8)).data.toList ++ be8 (keyedSum key.data.toList (s.extract 0 (s.size - 8)).data.toList) = sealed key.data.toList (s.data.toList.take (s.size - 8)) := by
    rw [sealed, show (s.extract 0 (s.size - 8)).data.toList = s.data.toList.take (s.size - 8) by simp]
  rw [hr]
  by_cases hq : openOk key s = true
  · have hq2 : sealed key.data.toList (s.data.toList.take (s.size - 8)) = s.data.toList := by simpa [openOk] using hq
    rw [hq2, show strOf s.data.toList = .string s by simp [strOf]]
    have hv : openV key s = .tuple #[strOf (s.data.toList.take (s.size - 8)), .int .i64 0] := by rw [openV, if_pos hq]
    have HV := Lib.hid hv
    clear hq2 hq hr hv
    go_wp2_with fail
    go_ret2
    refine ⟨?_, HL1.out⟩
    rw [HV.out, ← extract_str]; rfl
  · have hq2 : sealed key.data.toList (s.data.toList.take (s.size - 8)) ≠ s.data.toList := by simpa [openOk] using hq
    have hv : openV key s = .tuple #[strOf [], .int .i64 6] := by rw [openV, if_neg hq]
    have HV := Lib.hid hv
    clear hr hv
    obtain ⟨r, hr⟩ : ∃ r, r = sealed key.data.toList (s.data.toList.take (s.size - 8)) := ⟨_, rfl⟩
    rw [← hr]
    rw [← hr] at hq2
    have hne : (r == s.toList) = false := by rw [toList_data]; simpa using hq2
    clear hr hq hq2
    unfold strOf
    go_wp2_with fail
    go_ret2
    exact ⟨HV.out.symm ▸ rfl, HL1.out⟩
end Go.Proofs.Ytplfiadgfjkfkaa
