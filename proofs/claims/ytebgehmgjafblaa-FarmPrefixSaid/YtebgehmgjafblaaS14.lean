/- What is proved here: the walk of the law's first look at the automaton. -/
import Derived.Test.YtebgehmgjafblaaF7
set_option linter.unusedVariables false
set_option linter.unusedSimpArgs false
namespace Go.Proofs.Ytebgehmgjafblaa
open Go.RowKit
theorem s14_take0 (g : Nat) (w : World) (hB : Blk w g (Fm.mk 1 5 ⟨2, false, false, false, 0, 0⟩).cells 82) : Calls Try.prog 19 #[.pointer (some ⟨g, 0, none⟩), .agg #[.int .i64 1, .int .i64 2, .bool false, .bool false, .int .i64 0, .string ⟨#[97]⟩], .bool true] w fun e w' => e = .returned (.tuple #[.bool true, .int .i64 0]) ∧ Keep [g] w w' ∧ Blk w' g (Fm.mk 1 5 ⟨2, false, false, false, 0, 1⟩).cells 82 := by
  have h := Take_any (Fm.mk 1 5 ⟨2, false, false, false, 0, 0⟩) (Tc.mk 1 2 false false 0 ⟨#[97]⟩) true g w (by simp [Fm.ok]) hB
  rw [show takeF (Fm.mk 1 5 ⟨2, false, false, false, 0, 0⟩) (Tc.mk 1 2 false false 0 ⟨#[97]⟩) true = ((Fm.mk 1 5 ⟨2, false, false, false, 0, 1⟩), true, 0) by kernel_rfl] at h
  exact h
theorem s14_take1 (g : Nat) (w : World) (hB : Blk w g (Fm.mk 1 5 ⟨2, false, false, false, 0, 1⟩).cells 82) : Calls Try.prog 19 #[.pointer (some ⟨g, 0, none⟩), .agg #[.int .i64 1, .int .i64 2, .bool false, .bool false, .int .i64 0, .string ⟨#[97]⟩], .bool true] w fun e w' => e = .returned (.tuple #[.bool false, .int .i64 0]) ∧ Keep [g] w w' ∧ Blk w' g (Fm.mk 1 5 ⟨2, false, false, false, 0, 1⟩).cells 82 := by
  have h := Take_any (Fm.mk 1 5 ⟨2, false, false, false, 0, 1⟩) (Tc.mk 1 2 false false 0 ⟨#[97]⟩) true g w (by simp [Fm.ok]) hB
  rw [show takeF (Fm.mk 1 5 ⟨2, false, false, false, 0, 1⟩) (Tc.mk 1 2 false false 0 ⟨#[97]⟩) true = ((Fm.mk 1 5 ⟨2, false, false, false, 0, 1⟩), false, 0) by kernel_rfl] at h
  exact h
theorem s14_take2 (g : Nat) (w : World) (hB : Blk w g (Fm.mk 1 5 ⟨2, false, false, false, 0, 1⟩).cells 82) : Calls Try.prog 19 #[.pointer (some ⟨g, 0, none⟩), .agg #[.int .i64 1, .int .i64 2, .bool false, .bool false, .int .i64 2, .string ⟨#[97]⟩], .bool true] w fun e w' => e = .returned (.tuple #[.bool false, .int .i64 0]) ∧ Keep [g] w w' ∧ Blk w' g (Fm.mk 1 5 ⟨2, false, false, true, 0, 1⟩).cells 82 := by
  have h := Take_any (Fm.mk 1 5 ⟨2, false, false, false, 0, 1⟩) (Tc.mk 1 2 false false 2 ⟨#[97]⟩) true g w (by simp [Fm.ok]) hB
  rw [show takeF (Fm.mk 1 5 ⟨2, false, false, false, 0, 1⟩) (Tc.mk 1 2 false false 2 ⟨#[97]⟩) true = ((Fm.mk 1 5 ⟨2, false, false, true, 0, 1⟩), false, 0) by kernel_rfl] at h
  exact h
theorem s14_take3 (g : Nat) (w : World) (hB : Blk w g (Fm.mk 1 5 ⟨2, false, false, true, 0, 1⟩).cells 82) : Calls Try.prog 19 #[.pointer (some ⟨g, 0, none⟩), .agg #[.int .i64 1, .int .i64 2, .bool false, .bool false, .int .i64 7, .string ⟨#[97]⟩], .bool true] w fun e w' => e = .returned (.tuple #[.bool false, .int .i64 0]) ∧ Keep [g] w w' ∧ Blk w' g (Fm.mk 1 5 ⟨2, true, false, true, 0, 1⟩).cells 82 := by
  have h := Take_any (Fm.mk 1 5 ⟨2, false, false, true, 0, 1⟩) (Tc.mk 1 2 false false 7 ⟨#[97]⟩) true g w (by simp [Fm.ok]) hB
  rw [show takeF (Fm.mk 1 5 ⟨2, false, false, true, 0, 1⟩) (Tc.mk 1 2 false false 7 ⟨#[97]⟩) true = ((Fm.mk 1 5 ⟨2, true, false, true, 0, 1⟩), false, 0) by kernel_rfl] at h
  exact h
theorem s14_take4 (g : Nat) (w : World) (hB : Blk w g (Fm.mk 1 5 ⟨2, true, false, true, 0, 1⟩).cells 82) : Calls Try.prog 19 #[.pointer (some ⟨g, 0, none⟩), .agg #[.int .i64 1, .int .i64 2, .bool true, .bool false, .int .i64 0, .string ⟨#[98]⟩], .bool false] w fun e w' => e = .returned (.tuple #[.bool true, .int .i64 0]) ∧ Keep [g] w w' ∧ Blk w' g (Fm.mk 1 5 ⟨2, true, false, true, 1, 1⟩).cells 82 := by
  have h := Take_any (Fm.mk 1 5 ⟨2, true, false, true, 0, 1⟩) (Tc.mk 1 2 true false 0 ⟨#[98]⟩) false g w (by simp [Fm.ok]) hB
  rw [show takeF (Fm.mk 1 5 ⟨2, true, false, true, 0, 1⟩) (Tc.mk 1 2 true false 0 ⟨#[98]⟩) false = ((Fm.mk 1 5 ⟨2, true, false, true, 1, 1⟩), true, 0) by kernel_rfl] at h
  exact h
theorem s14_frame0 (w : World) : Calls Try.prog 20 #[.int .i64 0, .string ⟨#[97]⟩] w fun e w' => e = .returned (.agg #[.int .i64 1, .int .i64 2, .bool false, .bool false, .int .i64 0, .string ⟨#[97]⟩]) ∧ Below w.heap.size w w' := frame_any 0 ⟨#[97]⟩ w ⟨by omega, by omega⟩
theorem s14_frame2 (w : World) : Calls Try.prog 20 #[.int .i64 2, .string ⟨#[97]⟩] w fun e w' => e = .returned (.agg #[.int .i64 1, .int .i64 2, .bool false, .bool false, .int .i64 2, .string ⟨#[97]⟩]) ∧ Below w.heap.size w w' := frame_any 2 ⟨#[97]⟩ w ⟨by omega, by omega⟩
theorem s14_frame7 (w : World) : Calls Try.prog 20 #[.int .i64 7, .string ⟨#[97]⟩] w fun e w' => e = .returned (.agg #[.int .i64 1, .int .i64 2, .bool false, .bool false, .int .i64 7, .string ⟨#[97]⟩]) ∧ Below w.heap.size w w' := frame_any 7 ⟨#[97]⟩ w ⟨by omega, by omega⟩
theorem wd_field1 (a e f : Int) (b c d : Bool) (w : World) : (Instr.field 34 (.agg #[.int .i64 a, .bool b, .bool c, .bool d, .int .i64 e, .int .i64 f]) 1).run Try.prog w = .ok (.bool b) w := by kernel_rfl
theorem wd_field4 (a e f : Int) (b c d : Bool) (w : World) : (Instr.field 34 (.agg #[.int .i64 a, .bool b, .bool c, .bool d, .int .i64 e, .int .i64 f]) 4).run Try.prog w = .ok (.int .i64 e) w := by kernel_rfl
attribute [local go_sem] wd_field1 wd_field4
theorem s14_word (g : Nat) (w : World) (hB : Blk w g (Fm.start 1 5 2).cells 82) : Calls Try.prog 42 #[.pointer (some ⟨g, 0, none⟩)] w fun e w' => e = .returned (.int .u32 16908288) ∧ Below w.heap.size w w' :=
  Word_any 1 5 2 0 0 false false false g w (by omega) (by omega) (by omega) (by omega) hB
set_option maxHeartbeats 8000000 in
set_option maxRecDepth 100000 in
theorem shown14_any (w : World) : Calls Try.prog 15 #[] w fun e w' => e = .returned (.bool true) ∧ Below w.heap.size w w' := by
  have hnew := New_ok 1 2 5 w (by omega) (by omega) (by omega) (by omega) (by omega) (by omega)
  rw [show (2 * 5 : Int) = 10 from rfl] at hnew
  have HNEW := Lib.hid hnew; clear hnew
  go_enter Try.func15, Try.ntmps15
  go_wp2_with fail
  refine HNEW.out.mono ?_
  rintro e w1 ⟨rfl, hL1, hB1⟩
  obtain ⟨g, hg⟩ : ∃ g, g = w.heap.size := ⟨_, rfl⟩
  rw [← hg] at hB1 ⊢
  have HL1 := Lib.hid hL1; have HB1 := Lib.hid hB1; clear hL1 hB1
  have hgw : w.heap.size ≤ g := by omega
  clear hg HNEW
  go_wp2_with fail
  refine (s14_word g _ HB1.out).mono ?_
  rintro e w2 ⟨rfl, hL2⟩
  have HB2 := Lib.hid (HB1.out.below hL2 HB1.out.lt)
  have HL2 := Lib.hid (HL1.out.trans (hL2.mono HL1.out.size)); clear hL2 HL1 HB1
  go_wp2_with fail
  refine (s14_frame0 _).mono ?_
  rintro e w3 ⟨rfl, hL3⟩
  have HB3 := Lib.hid (HB2.out.below hL3 HB2.out.lt)
  have HL3 := Lib.hid (HL2.out.trans (hL3.mono HL2.out.size)); clear hL3 HL2 HB2
  go_wp2_with fail
  refine (s14_take0 g _ HB3.out).mono ?_
  rintro e w4 ⟨rfl, hK4, hB4⟩
  have HL4 := Lib.hid (HL3.out.trans (hK4.toBelowAt HL3.out.size (by simpa using hgw)))
  have HB4 := Lib.hid hB4; clear hK4 hB4 HL3 HB3
  go_wp2_with fail
  refine (s14_frame0 _).mono ?_
  rintro e w5 ⟨rfl, hL5⟩
  have HB5 := Lib.hid (HB4.out.below hL5 HB4.out.lt)
  have HL5 := Lib.hid (HL4.out.trans (hL5.mono HL4.out.size)); clear hL5 HL4 HB4
  go_wp2_with fail
  refine (s14_take1 g _ HB5.out).mono ?_
  rintro e w6 ⟨rfl, hK6, hB6⟩
  have HL6 := Lib.hid (HL5.out.trans (hK6.toBelowAt HL5.out.size (by simpa using hgw)))
  have HB6 := Lib.hid hB6; clear hK6 hB6 HL5 HB5
  go_wp2_with fail
  refine (s14_frame2 _).mono ?_
  rintro e w7 ⟨rfl, hL7⟩
  have HB7 := Lib.hid (HB6.out.below hL7 HB6.out.lt)
  have HL7 := Lib.hid (HL6.out.trans (hL7.mono HL6.out.size)); clear hL7 HL6 HB6
  go_wp2_with fail
  refine (s14_take2 g _ HB7.out).mono ?_
  rintro e w8 ⟨rfl, hK8, hB8⟩
  have HL8 := Lib.hid (HL7.out.trans (hK8.toBelowAt HL7.out.size (by simpa using hgw)))
  have HB8 := Lib.hid hB8; clear hK8 hB8 HL7 HB7
  go_wp2_with fail
  refine (State_any _ g _ (by simp) HB8.out).mono ?_
  rintro e w9 ⟨rfl, hL9⟩
  have HB9 := Lib.hid (HB8.out.below hL9 HB8.out.lt)
  have HL9 := Lib.hid (HL8.out.trans (hL9.mono HL8.out.size)); clear hL9 HL8 HB8
  simp only [Wd.val]
  go_wp2_with fail
  obtain ⟨wb, hwb⟩ : ∃ wb, wb = w9.heap.size := ⟨_, rfl⟩
  rw [← hwb]
  have hgb : g < wb := by rw [hwb]; exact HB9.out.lt
  refine (s14_frame7 _).mono ?_
  rintro e w10 ⟨rfl, hL10⟩
  have HW10 := Lib.hid (show Blk w10 wb [.int .i64 2, .bool false, .bool false, .bool true, .int .i64 0, .int .i64 1] 34 by rw [hwb]; exact (Blk.new w9 [.int .i64 2, .bool false, .bool false, .bool true, .int .i64 0, .int .i64 1] 34).below hL10 (by simp))
  have HB10 := Lib.hid ((HB9.out.alloc (Obj.cells #[.int .i64 2, .bool false, .bool false, .bool true, .int .i64 0, .int .i64 1] 34)).below hL10 (by simp; omega))
  have HL10 := Lib.hid ((HL9.out.alloc HL9.out.size (Obj.cells #[.int .i64 2, .bool false, .bool false, .bool true, .int .i64 0, .int .i64 1] 34)).trans (hL10.mono (by have := HL9.out.size; simp; omega))); clear hL10 HL9 HB9 hwb
  go_wp2_with fail
  refine (s14_take3 g _ HB10.out).mono ?_
  rintro e w11 ⟨rfl, hK11, hB11⟩
  have HW11 := Lib.hid (HW10.out.keep hK11 (by simp; omega))
  have HL11 := Lib.hid (HL10.out.trans (hK11.toBelowAt HL10.out.size (by simpa using hgw)))
  have HB11 := Lib.hid hB11; clear hK11 hB11 HL10 HB10 HW10
  go_wp2_with fail
  refine (s14_take4 g _ HB11.out).mono ?_
  rintro e w12 ⟨rfl, hK12, hB12⟩
  have HW12 := Lib.hid (HW11.out.keep hK12 (by simp; omega))
  have HL12 := Lib.hid (HL11.out.trans (hK12.toBelowAt HL11.out.size (by simpa using hgw)))
  have HB12 := Lib.hid hB12; clear hK12 hB12 HL11 HB11 HW11
  have c0 := HW12.out.cell 0
  have c1 := HW12.out.cell 1
  have c2 := HW12.out.cell 2
  have c3 := HW12.out.cell 3
  have c4 := HW12.out.cell 4
  have c5 := HW12.out.cell 5
  simp only [List.getElem?_cons_zero, List.getElem?_cons_succ] at c0 c1 c2 c3 c4 c5
  go_wp2_with fail
  refine (State_any _ g _ (by simp) HB12.out).mono ?_
  rintro e w13 ⟨rfl, hL13⟩
  have HW13 := Lib.hid (HW12.out.below hL13 HW12.out.lt)
  have HB13 := Lib.hid (HB12.out.below hL13 HB12.out.lt)
  have HL13 := Lib.hid (HL12.out.trans (hL13.mono HL12.out.size)); clear hL13 HL12 HB12 HW12
  simp only [Wd.val]
  go_wp2_with fail
  refine (State_any _ g _ (by simp) HB13.out).mono ?_
  rintro e w14 ⟨rfl, hL14⟩
  have HW14 := Lib.hid (HW13.out.below hL14 HW13.out.lt)
  have HB14 := Lib.hid (HB13.out.below hL14 HB13.out.lt)
  have HL14 := Lib.hid (HL13.out.trans (hL14.mono HL13.out.size)); clear hL14 HL13 HB13 HW13
  simp only [Wd.val]
  go_wp2_with fail
  go_ret
  exact ⟨rfl, HL14.out⟩
end Go.Proofs.Ytebgehmgjafblaa
