/- What is proved here: the walk of the law that an automaton that New did not return does nothing. -/
import Derived.Test.YtbncejmohhejlaaFo16
set_option linter.unusedVariables false
set_option linter.unusedSimpArgs false
namespace Go.Proofs.Ytbncejmohhejlaa
open Go.RowKit
theorem fops_at (z k : Nat) (hk : k < 2) : ∃ p : Value, (p = .pointer none ∨ p = .pointer (some ⟨z, 0, none⟩)) ∧ ∀ W, (Instr.index 67 (.agg #[.pointer none, .pointer (some ⟨z, 0, none⟩)]) (.int .i64 (k : Int))).run Try.prog W = .ok p W := by
  have h0 : ∀ W, (Instr.index 67 (.agg #[.pointer none, .pointer (some ⟨z, 0, none⟩)]) (.int .i64 0)).run Try.prog W = .ok (.pointer none) W := fun W => by kernel_rfl
  have h1 : ∀ W, (Instr.index 67 (.agg #[.pointer none, .pointer (some ⟨z, 0, none⟩)]) (.int .i64 1)).run Try.prog W = .ok (.pointer (some ⟨z, 0, none⟩)) W := fun W => by kernel_rfl
  match k, hk with
  | 0, _ => exact ⟨_, .inl rfl, h0⟩
  | 1, _ => exact ⟨_, .inr rfl, h1⟩
def opC (a b c : Int) (d : ByteArray) (e : Int) : List Value := [.int .i64 a, .int .i64 b, .int .i64 c, .string d, .int .u32 e]
set_option maxHeartbeats 8000000 in
set_option maxRecDepth 100000 in
theorem FopNone_any (a b c : Int) (d : ByteArray) (u : Int) (w : World) : Calls Try.prog 5 #[.agg #[.int .i64 a, .int .i64 b, .int .i64 c, .string d, .int .u32 u]] w fun e w' => e = .returned (.bool true) ∧ Below w.heap.size w w' := by
  have HL := Lib.hid ((Below.refl w.heap.size w).alloc (Nat.le_refl _) (Obj.cells (opC a b c d u).toArray 56))
  have HO := Lib.hid (Blk.new w (opC a b c d u) 56)
  go_enter Try.func5, Try.ntmps5
  go_wp2_with fail
  refine (shown15_any _).mono ?_
  rintro e w1 ⟨rfl, hL⟩
  replace HO := Lib.hid (HO.out.below hL HO.out.lt)
  replace HL := Lib.hid (HL.out.trans (hL.mono HL.out.size))
  clear hL
  obtain ⟨z, hz⟩ : ∃ z, z = w1.heap.size := ⟨_, rfl⟩
  have HZ := Lib.hid (Blk.new w1 ((newF 0 0 0 0 0).cells (.slice none 0 0) (.slice none 0 0) (.slice none 0 0) (.slice none 0 0)) 66)
  replace HO := Lib.hid (HO.out.alloc (Obj.cells ((newF 0 0 0 0 0).cells (.slice none 0 0) (.slice none 0 0) (.slice none 0 0) (.slice none 0 0)).toArray 66))
  replace HL := Lib.hid (HL.out.alloc HL.out.size (Obj.cells ((newF 0 0 0 0 0).cells (.slice none 0 0) (.slice none 0 0) (.slice none 0 0) (.slice none 0 0)).toArray 66))
  go_wp2_with fail
  rw [← hz]
  have HZE := Lib.hid hz; clear hz
  go_loopw [24] (fun iv wr => ∃ k : Nat, k ≤ 2 ∧ iv = .int .i64 k ∧ Below w.heap.size w wr ∧ Blk wr w.heap.size (opC a b c d u) 56 ∧ Blk wr z ((newF 0 0 0 0 0).cells (.slice none 0 0) (.slice none 0 0) (.slice none 0 0) (.slice none 0 0)) 66) (fun iv _ => 2 - (intOf iv).toNat)
  case atStart => exact ⟨0, by omega, rfl, HL.out, HO.out, by rw [HZE.out]; exact HZ.out⟩
  case round =>
    obtain ⟨k, hk, rfl, hL, hO, hZ⟩ := hrel
    have HL := Lib.hid hL; have HO := Lib.hid hO; have HZ := Lib.hid hZ; clear hL hO hZ
    by_cases hlt : k < 2
    · obtain ⟨p, hp, hix⟩ := fops_at z k hlt
      have HI := Lib.hid (show Idle15 wr p from hp.imp id (fun h => ⟨z, h, HZ.out⟩))
      clear hp
      have x0 := HO.out.cell 0
      have x1 := HO.out.cell 1
      have x2 := HO.out.cell 2
      have x3 := HO.out.cell 3
      have x4 := HO.out.cell 4
      simp only [opC, List.getElem?_cons_zero, List.getElem?_cons_succ] at x0 x1 x2 x3 x4
      go_wp2_with fail
      refine (Begin_idle p b c _ HI.out).mono ?_
      rintro e _ ⟨rfl, rfl⟩
      clear hix
      go_wp2_with fail
      refine (Send_idle p d _ HI.out).mono ?_
      rintro e _ ⟨rfl, rfl⟩
      go_wp2_with fail
      refine (Bypass_idle p d _ HI.out).mono ?_
      rintro e _ ⟨rfl, rfl⟩
      go_wp2_with fail
      refine (foWord_idle p u _ HI.out).mono ?_
      rintro e _ ⟨rfl, rfl⟩
      go_wp2_with fail
      refine (foTick_idle p c _ HI.out).mono ?_
      rintro e _ ⟨rfl, rfl⟩
      go_wp2_with fail
      refine (Next_idle p _ HI.out).mono ?_
      rintro e w2 ⟨rfl, hL⟩
      clear x0 x1 x2 x3 x4
      replace HL := Lib.hid (HL.out.trans (hL.mono HL.out.size))
      replace HO := Lib.hid (HO.out.below hL HO.out.lt)
      replace HZ := Lib.hid (HZ.out.below hL HZ.out.lt)
      replace HI := Lib.hid (HI.out.below hL)
      clear hL
      have hA : Below w2.heap.size w2 (w2.alloc (Obj.cells #[.int .i64 0, .int .i64 0, .bool false, .bool false, .int .i64 0, .string ⟨#[]⟩] 31)) := (Below.refl _ _).alloc (Nat.le_refl _) _
      replace HL := Lib.hid (HL.out.trans (hA.mono HL.out.size))
      replace HO := Lib.hid (HO.out.below hA HO.out.lt)
      replace HZ := Lib.hid (HZ.out.below hA HZ.out.lt)
      replace HI := Lib.hid (HI.out.below hA)
      clear hA
      go_wp2_with fail
      refine (End_idle p _ HI.out).mono ?_
      rintro e _ ⟨rfl, rfl⟩
      go_wp2_with fail
      refine (Suspend_idle p _ HI.out).mono ?_
      rintro e _ ⟨rfl, rfl⟩
      go_wp2_with fail
      refine (Resume_idle p _ HI.out).mono ?_
      rintro e _ ⟨rfl, rfl⟩
      go_wp2_with fail
      refine (Ready_idle p _ HI.out).mono ?_
      rintro e _ ⟨rfl, rfl⟩
      go_wp2_with fail
      refine (Waiting_idle p _ HI.out).mono ?_
      rintro e _ ⟨rfl, rfl⟩
      go_wp2_with fail
      refine (Sent_idle p _ HI.out).mono ?_
      rintro e _ ⟨rfl, rfl⟩
      go_wp2_with fail
      go_roundw
      case rel => exact ⟨k + 1, by omega, by go_num, HL.out, HO.out, HZ.out⟩
      case measure => simp [intOf]; omega
    · obtain rfl : k = 2 := by omega
      go_wp2_with fail
      go_ret
      exact ⟨rfl, HL.out⟩
end Go.Proofs.Ytbncejmohhejlaa
