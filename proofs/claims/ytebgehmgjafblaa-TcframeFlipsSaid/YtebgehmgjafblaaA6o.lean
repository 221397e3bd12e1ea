/- What is proved here: the walk of Feed for one kind of parts. -/
import Derived.Test.YtebgehmgjafblaaA6
set_option linter.unusedVariables false
set_option linter.unusedSimpArgs false
namespace Go.Proofs.Ytebgehmgjafblaa
open Go.RowKit
attribute [local go_sem] run_tab0 run_tab1 run_tab2 run_tab3
set_option maxHeartbeats 4000000 in
set_option maxRecDepth 100000 in
theorem Feed_only (s : ByteArray) (a base : Nat) (op op2 p1 p3 : Bool) (xs xs2 : List UInt8) (p2 : ByteArray) (w : World) (h1 : 2 ≤ s.size) (h2 : s.size ≤ 200) (hz : (s[0]'(by omega)).toNat = 192) (hb : base ≤ w.heap.size) (hA : AsmAt w base a op xs)
    (hc : ∀ W, base ≤ W.heap.size → AsmAt W base a op xs → Calls Try.prog 83 #[.pointer (some ⟨a, 0, none⟩), .string (s.extract 1 s.size)] W fun e w' => e = .returned (pieceV p1 p2 p3) ∧ Below base W w' ∧ Apart a W w' ∧ AsmAt w' base a op2 xs2) :
    Calls Try.prog 27 #[.pointer (some ⟨a, 0, none⟩), .string s] w fun e w' => e = .returned (.tuple #[pieceV p1 p2 p3, .int .i64 0]) ∧ Below base w w' ∧ Apart a w w' ∧ AsmAt w' base a op2 xs2 := by
  have HC := Lib.hid hc; clear hc
  have hba := hA.1
  have hal : a < w.heap.size := by obtain ⟨_, v, h, _⟩ := hA; exact h.lt
  have hne1 : a ≠ w.heap.size := by omega
  have hne2 : w.heap.size ≠ a := by omega
  have HA0 := Lib.hid (asm_below hA ((Below.refl w.heap.size w).alloc (Nat.le_refl _) (Obj.cells #[.bool false, .string ⟨#[]⟩, .int .i64 0, .bool false] 57)) (Nat.le_refl _))
  have HZ0 := Lib.hid (Blk.new w (pieceC false ⟨#[]⟩ false) 57)
  obtain ⟨_, v, hB, _⟩ := hA
  have HB := Lib.hid (hB.alloc (Obj.cells #[.bool false, .string ⟨#[]⟩, .int .i64 0, .bool false] 57))
  clear hB
  have b0 := HB.out.cell 0
  have b1 := HB.out.cell 1
  have b2 := HB.out.cell 2
  simp only [List.getElem?_cons_zero, List.getElem?_cons_succ] at b0 b1 b2
  have k1 : ¬ ((s.size : Int) < 2) := by omega
  have k2 : ¬ ((200 : Int) < s.size) := by omega
  have k3 : (0 : Int) < s.size := by omega
  have hL0 : Below base w (w.alloc (Obj.cells #[.bool false, .string ⟨#[]⟩, .int .i64 0, .bool false] 57)) := (Below.refl _ _).alloc hb _
  have HL0 := Lib.hid hL0
  have hP0 : Apart a w (w.alloc (Obj.cells #[.bool false, .string ⟨#[]⟩, .int .i64 0, .bool false] 57)) := fun g cs t hg ht hB => hB.alloc _
  have HP0 := Lib.hid hP0
  clear hL0 hP0
  go_enter Try.func27, Try.ntmps27
  go_wp2_with fail
  go_region_with (first | (go_at_call 54; refine (steps_any _).mono ?_; rintro e w' ⟨rfl, rfl⟩) | (go_at_call 83; refine (HC.out _ (by simp; omega) ((HA0.out.alloc _).drew)).mono ?_; rintro e w5 ⟨rfl, hL5, hP5, hA5⟩; have hZ5 := hP5 _ _ _ hne2 (by decide) (HZ0.out.alloc (Obj.cells #[.func (.func 80) #[] #[], .func (.func 81) #[] #[], .func (.func 82) #[] #[], .func (.func 83) #[] #[]] 107)).drew; have z0 := hZ5.cell 0; have z1 := hZ5.cell 1; have z2 := hZ5.cell 2; have z3 := hZ5.cell 3; have y0 := hZ5.free 0; have y1 := hZ5.free 1; have y2 := hZ5.free 2; have y3 := hZ5.free 3; simp only [pieceC, List.getElem?_cons_zero, List.getElem?_cons_succ] at z0 z1 z2 z3; have HZ5 := Lib.hid hZ5; have HA5 := Lib.hid hA5; have HL5 := Lib.hid hL5; have HP5 := Lib.hid hP5; clear hZ5 hA5 hL5 hP5; simp only [pieceV]))
  all_goals (go_wp2_with fail; refine ret_cell_tmp rfl w.heap.size 57 (pieceC p1 p2 p3) rfl ((((HZ5.out.set 0 _).set 1 _).set 2 _).set 3 _) Try.underlying57 rfl (by kernel_rfl) rfl ?_; refine ⟨rfl, ((((((HL0.out.alloc (by simp; omega) _).drew.trans HL5.out).setCell (p := ⟨w.heap.size, 0, none⟩) hb _).setCell (p := ⟨w.heap.size, 1, none⟩) hb _).setCell (p := ⟨w.heap.size, 2, none⟩) hb _).setCell (p := ⟨w.heap.size, 3, none⟩) hb _), (((((((HP0.out.alloc _).drew.trans HP5.out).set_new (Nat.le_refl _) 0 _).set_new (Nat.le_refl _) 1 _).set_new (Nat.le_refl _) 2 _).set_new (Nat.le_refl _) 3 _)), ((((HA5.out.set_far HZ5.out (by decide) hne1 0 _).set_far (HZ5.out.set 0 _) (by decide) hne1 1 _).set_far ((HZ5.out.set 0 _).set 1 _) (by decide) hne1 2 _).set_far (((HZ5.out.set 0 _).set 1 _).set 2 _) (by decide) hne1 3 _)⟩)
end Go.Proofs.Ytebgehmgjafblaa
