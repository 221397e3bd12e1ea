/- What is proved here: walks of the small methods of the automaton on board. -/
import Derived.Test.YtbncejmohhejlaaT6
set_option linter.unusedVariables false
set_option linter.unusedSimpArgs false
namespace Go.Proofs.Ytbncejmohhejlaa
open Go.RowKit
/-- The automaton. -/
structure Fm where
  craft : Int
  half : Int
  st : Wd
def Fm.cells (f : Fm) : List Value := [.int .i64 f.craft, .int .i64 f.half, .int .i64 f.st.chan, .bool f.st.lockout, .bool f.st.wait, .bool f.st.retx, .int .i64 f.st.bypd, .int .i64 f.st.next]
def Wd.zero : Wd := ⟨0, false, false, false, 0, 0⟩
set_option maxHeartbeats 1000000 in
set_option maxRecDepth 100000 in
theorem none_nil (w : World) : Calls Try.prog 54 #[.pointer none] w fun e w' => e = .returned (.bool true) ∧ w = w' := by
  go_enter Try.func54, Try.ntmps54
  go_wp2_with fail
  go_ret
  exact ⟨rfl, rfl⟩
set_option maxHeartbeats 1000000 in
set_option maxRecDepth 100000 in
theorem none_any (f : Fm) (g : Nat) (w : World) (b : Bool) (hb : (f.half == 0) = b) (hB : Blk w g f.cells 112) : Calls Try.prog 54 #[.pointer (some ⟨g, 0, none⟩)] w fun e w' => e = .returned (.bool b) ∧ w = w' := by
  have c1 := hB.cell 1
  simp only [Fm.cells, List.getElem?_cons_zero, List.getElem?_cons_succ] at c1
  go_enter Try.func54, Try.ntmps54
  go_wp2_with fail
  go_ret
  exact ⟨rfl, rfl⟩
set_option maxHeartbeats 1000000 in
set_option maxRecDepth 100000 in
theorem State_nil (w : World) : Calls Try.prog 27 #[.pointer none] w fun e w' => e = .returned Wd.zero.val ∧ Below w.heap.size w w' := by
  have HL0 := Lib.hid ((Below.refl w.heap.size w).alloc (Nat.le_refl _) (Obj.cells Wd.zero.cells.toArray 35))
  have HZ := Lib.hid (Blk.new w Wd.zero.cells 35)
  have z0 := HZ.out.cell 0
  have z1 := HZ.out.cell 1
  have z2 := HZ.out.cell 2
  have z3 := HZ.out.cell 3
  have z4 := HZ.out.cell 4
  have z5 := HZ.out.cell 5
  simp only [Wd.cells, Wd.zero, List.getElem?_cons_zero, List.getElem?_cons_succ] at z0 z1 z2 z3 z4 z5
  have f0 := HZ.out.free 0
  have f1 := HZ.out.free 1
  have f2 := HZ.out.free 2
  have f3 := HZ.out.free 3
  have f4 := HZ.out.free 4
  have f5 := HZ.out.free 5
  go_enter Try.func27, Try.ntmps27
  go_wp2_with fail
  refine (none_nil _).mono ?_
  rintro e w1 ⟨rfl, rfl⟩
  go_wp2_with fail
  refine ret_cell rfl w.heap.size 35 Wd.zero.cells rfl HZ.out Try.underlying35 rfl (by kernel_rfl) rfl ?_
  exact ⟨rfl, HL0.out⟩
set_option maxHeartbeats 1000000 in
set_option maxRecDepth 100000 in
theorem State_any (f : Fm) (g : Nat) (w : World) (hh : f.half ≠ 0) (hB : Blk w g f.cells 112) : Calls Try.prog 27 #[.pointer (some ⟨g, 0, none⟩)] w fun e w' => e = .returned f.st.val ∧ Below w.heap.size w w' := by
  obtain ⟨cr, h, ⟨ch, lo, wa, re, by_, nx⟩⟩ := f
  have HL0 := Lib.hid ((Below.refl w.heap.size w).alloc (Nat.le_refl _) (Obj.cells Wd.zero.cells.toArray 35))
  have HZ := Lib.hid (Blk.new w Wd.zero.cells 35)
  have HB := Lib.hid (hB.alloc (Obj.cells Wd.zero.cells.toArray 35)); clear hB
  have hn := Lib.hid ((none_any ⟨cr, h, ⟨ch, lo, wa, re, by_, nx⟩⟩ g _ false (by simpa using hh) HB.out).mono (fun e w' h => (⟨h.1, h.2 ▸ Below.refl _ _⟩ : e = .returned (.bool false) ∧ Below (w.alloc (Obj.cells Wd.zero.cells.toArray 35)).heap.size (w.alloc (Obj.cells Wd.zero.cells.toArray 35)) w')))
  go_enter Try.func27, Try.ntmps27
  go_wp2_with fail
  refine hn.out.mono ?_
  rintro e w1 ⟨rfl, hL1⟩
  have HL1 := Lib.hid (HL0.out.trans (hL1.mono HL0.out.size))
  have HZ1 := Lib.hid (HZ.out.below hL1 (by simp))
  have HB1 := Lib.hid (HB.out.below hL1 HB.out.lt); clear hL1
  have z0 := HZ1.out.cell 0
  have z1 := HZ1.out.cell 1
  have z2 := HZ1.out.cell 2
  have z3 := HZ1.out.cell 3
  have z4 := HZ1.out.cell 4
  have z5 := HZ1.out.cell 5
  simp only [Wd.cells, Wd.zero, List.getElem?_cons_zero, List.getElem?_cons_succ] at z0 z1 z2 z3 z4 z5
  have f0 := HZ1.out.free 0
  have f1 := HZ1.out.free 1
  have f2 := HZ1.out.free 2
  have f3 := HZ1.out.free 3
  have f4 := HZ1.out.free 4
  have f5 := HZ1.out.free 5
  have c0 := HB1.out.cell 0
  have c1 := HB1.out.cell 1
  have c2 := HB1.out.cell 2
  have c3 := HB1.out.cell 3
  have c4 := HB1.out.cell 4
  have c5 := HB1.out.cell 5
  have c6 := HB1.out.cell 6
  have c7 := HB1.out.cell 7
  simp only [Fm.cells, List.getElem?_cons_zero, List.getElem?_cons_succ] at c0 c1 c2 c3 c4 c5 c6 c7
  go_wp2_with fail
  refine ret_cell rfl w.heap.size 35 (Wd.mk ch lo wa re by_ nx).cells rfl ((((((HZ1.out.set 0 _).set 1 _).set 2 _).set 3 _).set 4 _).set 5 _) Try.underlying35 rfl (by kernel_rfl) rfl ?_
  exact ⟨rfl, ((((((HL1.out.setCell (Nat.le_refl _) _).setCell (Nat.le_refl _) _).setCell (Nat.le_refl _) _).setCell (Nat.le_refl _) _).setCell (Nat.le_refl _) _).setCell (Nat.le_refl _) _)⟩
end Go.Proofs.Ytbncejmohhejlaa
