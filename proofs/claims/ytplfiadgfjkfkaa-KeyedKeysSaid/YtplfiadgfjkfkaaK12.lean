/- What is proved here: the example of the keyed sums is as the document has it. -/
import Derived.Test.YtplfiadgfjkfkaaK11
namespace Go.Proofs.Ytplfiadgfjkfkaa
open Go.RowKit
def exKey : List UInt8 := [0, 1, 2, 3, 4, 5, 6, 7, 8, 9, 10, 11, 12, 13, 14, 15]
def exStr : List UInt8 := [0, 1, 2, 3, 4, 5, 6, 7, 8, 9, 10, 11, 12, 13, 14]
def exKeyB : ByteArray := ⟨exKey.toArray⟩
def exStrB : ByteArray := ⟨exStr.toArray⟩
theorem ex_sum : keyedSum exKey exStr = 0xa129ca6149be45e5#64 := by decide +kernel
set_option maxHeartbeats 4000000 in
theorem example_any (w : World) :
    Calls Try.prog 17 #[] w fun e w' => e = .returned (.tuple #[.string exKeyB, .string exStrB]) ∧ Below w.heap.size w w' := by
  have hmk : ∀ w, (Instr.makeSlice 42 (.int .i64 16) (.int .i64 16)).run Try.prog w = .ok (.slice (some ⟨w.heap.size, 0, none⟩) 16 16) (w.alloc (.cells (List.replicate 16 (.int .u8 0)).toArray 5)) := fun _ => by kernel_rfl
  go_enter Try.func17, Try.ntmps17
  go_wp2_with fail
  go_rounds 17
  refine gen_world (fun w' => Below w.heap.size w w' ∧ w'.heap[w.heap.size]? = some (.cells (exKey.map vb).toArray 5 (0, 0))) ⟨(Below.refl _ _).alloc (Nat.le_refl _) _, heap_alloc_new w _⟩ ?_
  rintro w1 ⟨hL1, hB1⟩
  have hr1 : Row w1 w.heap.size (.slice (some ⟨w.heap.size, 0, none⟩) 16 16) exKey := .inr ⟨w.heap.size, 16, _, _, rfl, Nat.le_refl _, hB1, .inl rfl, Nat.le_refl _, by decide, rfl, rfl⟩
  have hr2 : Row w1 w.heap.size (.slice (some ⟨w.heap.size, 0, none⟩) 15 16) exStr := .inr ⟨w.heap.size, 16, _, _, rfl, Nat.le_refl _, hB1, .inl rfl, by decide, by decide, rfl, rfl⟩
  have hc1 : ∀ n, (convert 42 9 (.slice (some ⟨w.heap.size, 0, none⟩) 16 16)).run Try.prog (w1.drewN n) = .ok (strOf exKey) (w1.drewN n) := fun n => run_string (w := w1.drewN n) hr1
  have hc2 : ∀ n, (convert 42 9 (.slice (some ⟨w.heap.size, 0, none⟩) 15 16)).run Try.prog (w1.drewN n) = .ok (strOf exStr) (w1.drewN n) := fun n => run_string (w := w1.drewN n) hr2
  have HL1 := Lib.hid hL1
  clear hB1 hr1 hr2 hmk hL1
  go_quiet (fail)
  go_wp2_with fail
  go_ret2
  exact ⟨rfl, HL1.out.trans ((below_quiet w1 nq).1.mono HL1.out.size)⟩
theorem ex_w : w64 (0xa129ca6149be45e5#64) = 11613035633349379557 := by decide
set_option maxHeartbeats 4000000 in
theorem awake_any (w : World) : Calls Try.prog 9 #[] w fun e w' => e = .returned (.bool true) ∧ Below w.heap.size w w' := by
  go_enter Try.func9, Try.ntmps9
  go_wp2_with fail
  refine (example_any _).mono ?_
  rintro e w1 ⟨rfl, hL1⟩
  have HL1 := Lib.hid hL1; clear hL1
  go_wp2_with fail
  refine (Sum_ok exKeyB exStrB _ rfl (by decide)).mono ?_
  rw [show keyedSum exKeyB.data.toList exStrB.data.toList = 0xa129ca6149be45e5#64 from ex_sum, ex_w]
  rintro e w2 ⟨rfl, hL2⟩
  have HL2 := Lib.hid (HL1.out.trans (hL2.mono HL1.out.size)); clear hL2
  go_wp2_with fail
  refine (Seal_ok exKeyB exStrB _ rfl (by decide)).mono ?_
  obtain ⟨s, hs, hsl, hss⟩ := strOf_is (exStrB.data.toList ++ be8 (keyedSum exKeyB.data.toList exStrB.data.toList))
  rw [hs]
  rintro e w3 ⟨rfl, hL3⟩
  have HL3 := Lib.hid (HL2.out.trans (hL3.mono HL2.out.size)); clear hL3
  have h23 : (s.size : Int) = 23 := by rw [hss]; rfl
  have ho : openV exKeyB s = .tuple #[.string exStrB, .int .i64 0] := by
    have e1 : s.data.toList.take (s.size - 8) = exStrB.data.toList := by
      rw [hss, hsl]; rfl
    have e2 : openOk exKeyB s = true := by
      rw [openOk, e1, hsl, sealed]; simp
    rw [openV, if_pos e2, e1]; rfl
  have hs8 : 8 ≤ s.size := by omega
  have hs9 : s.size ≤ 140737488355000 := by omega
  have h23b : ((s.size : Int) == 23) = true := by rw [h23]; rfl
  have HO := Lib.hid ho
  clear ho hs hsl hss h23
  go_wp2_with fail
  refine (Open_any exKeyB s _ rfl hs8 hs9).mono ?_
  rw [HO.out]
  rintro e w4 ⟨rfl, hL4⟩
  have HL4 := Lib.hid (HL3.out.trans (hL4.mono HL3.out.size)); clear hL4
  go_wp2_with fail
  go_ret
  exact ⟨rfl, HL4.out⟩
end Go.Proofs.Ytplfiadgfjkfkaa
