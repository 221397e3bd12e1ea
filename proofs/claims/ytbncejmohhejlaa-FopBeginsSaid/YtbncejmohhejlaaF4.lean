/- What is proved here: walks of the small methods of the automaton on board. -/
import Derived.Test.YtbncejmohhejlaaT6
set_option linter.unusedVariables false
set_option linter.unusedSimpArgs false
namespace Go.Proofs.Ytbncejmohhejlaa
open Go.RowKit
section
/-- The automaton. -/
structure Fm where
  craft : Int
  half : Int
  st : Wd
def Fm.cells (f : Fm) : List Value := [.int .i64 f.craft, .int .i64 f.half, .int .i64 f.st.chan, .bool f.st.lockout, .bool f.st.wait, .bool f.st.retx, .int .i64 f.st.bypd, .int .i64 f.st.next]
def Wd.zero : Wd := ⟨0, false, false, false, 0, 0⟩
set_option maxHeartbeats 1000000 in
set_option maxRecDepth 100000 in
theorem none_nil (w : World) : Calls Try.prog 54 #[.pointer none] w fun e w' => e = .returned (.bool true) ∧ w = w' := by
  go_enter Try.func54, Try.ntmps54
  go_wp2_with fail
  go_ret
  exact ⟨rfl, rfl⟩
set_option maxHeartbeats 1000000 in
set_option maxRecDepth 100000 in
theorem none_any (f : Fm) (g : Nat) (w : World) (b : Bool) (hb : (f.half == 0) = b) (hB : Blk w g f.cells 112) : Calls Try.prog 54 #[.pointer (some ⟨g, 0, none⟩)] w fun e w' => e = .returned (.bool b) ∧ w = w' := by
  have c1 := hB.cell 1
  simp only [Fm.cells, List.getElem?_cons_zero, List.getElem?_cons_succ] at c1
  go_enter Try.func54, Try.ntmps54
  go_wp2_with fail
  go_ret
  exact ⟨rfl, rfl⟩
set_option maxHeartbeats 1000000 in
set_option maxRecDepth 100000 in
theorem State_nil (w : World) : Calls Try.prog 27 #[.pointer none] w fun e w' => e = .returned Wd.zero.val ∧ Below w.heap.size w w' := by
  have HL0 := Lib.hid ((Below.refl w.heap.size w).alloc (Nat.le_refl _) (Obj.cells Wd.zero.cells.toArray 35))
  have HZ := Lib.hid (Blk.new w Wd.zero.cells 35)
  have z0 := HZ.out.cell 0
  have z1 := HZ.out.cell 1
  have z2 := HZ.out.cell 2
  have z3 := HZ.out.cell 3
  have z4 := HZ.out.cell 4
  have z5 := HZ.out.cell 5
  simp only [Wd.cells, Wd.zero, List.getElem?_cons_zero, List.getElem?_cons_succ] at z0 z1 z2 z3 z4 z5
  have f0 := HZ.out.free 0
  have f1 := HZ.out.free 1
  have f2 := HZ.out.free 2
  have f3 := HZ.out.free 3
  have f4 := HZ.out.free 4
  have f5 := HZ.out.free 5
  go_enter Try.func27, Try.ntmps27
  go_wp2_with fail
  refine (none_nil _).mono ?_
  rintro e w1 ⟨rfl, rfl⟩
  go_wp2_with fail
  refine ret_cell rfl w.heap.size 35 Wd.zero.cells rfl HZ.out Try.underlying35 rfl (by kernel_rfl) rfl ?_
  exact ⟨rfl, HL0.out⟩
set_option maxHeartbeats 1000000 in
set_option maxRecDepth 100000 in
theorem State_any (f : Fm) (g : Nat) (w : World) (hh : f.half ≠ 0) (hB : Blk w g f.cells 112) : Calls Try.prog 27 #[.pointer (some ⟨g, 0, none⟩)] w fun e w' => e = .returned f.st.val ∧ Below w.heap.size w w' := by
  obtain ⟨cr, h, ⟨ch, lo, wa, re, by_, nx⟩⟩ := f
  have HL0 := Lib.hid ((Below.refl w.heap.size w).alloc (Nat.le_refl _) (Obj.cells Wd.zero.cells.toArray 35))
  have HZ := Lib.hid (Blk.new w Wd.zero.cells 35)
  have HB := Lib.hid (hB.alloc (Obj.cells Wd.zero.cells.toArray 35)); clear hB
  have hn := Lib.hid ((none_any ⟨cr, h, ⟨ch, lo, wa, re, by_, nx⟩⟩ g _ false (by simpa using hh) HB.out).mono (fun e w' h => (⟨h.1, h.2 ▸ Below.refl _ _⟩ : e = .returned (.bool false) ∧ Below (w.alloc (Obj.cells Wd.zero.cells.toArray 35)).heap.size (w.alloc (Obj.cells Wd.zero.cells.toArray 35)) w')))
  go_enter Try.func27, Try.ntmps27
  go_wp2_with fail
  refine hn.out.mono ?_
  rintro e w1 ⟨rfl, hL1⟩
  have HL1 := Lib.hid (HL0.out.trans (hL1.mono HL0.out.size))
  have HZ1 := Lib.hid (HZ.out.below hL1 (by simp))
  have HB1 := Lib.hid (HB.out.below hL1 HB.out.lt); clear hL1
  have z0 := HZ1.out.cell 0
  have z1 := HZ1.out.cell 1
  have z2 := HZ1.out.cell 2
  have z3 := HZ1.out.cell 3
  have z4 := HZ1.out.cell 4
  have z5 := HZ1.out.cell 5
  simp only [Wd.cells, Wd.zero, List.getElem?_cons_zero, List.getElem?_cons_succ] at z0 z1 z2 z3 z4 z5
  have f0 := HZ1.out.free 0
  have f1 := HZ1.out.free 1
  have f2 := HZ1.out.free 2
  have f3 := HZ1.out.free 3
  have f4 := HZ1.out.free 4
  have f5 := HZ1.out.free 5
  have c0 := HB1.out.cell 0
  have c1 := HB1.out.cell 1
  have c2 := HB1.out.cell 2
  have c3 := HB1.out.cell 3
  have c4 := HB1.out.cell 4
  have c5 := HB1.out.cell 5
  have c6 := HB1.out.cell 6
  have c7 := HB1.out.cell 7
  simp only [Fm.cells, List.getElem?_cons_zero, List.getElem?_cons_succ] at c0 c1 c2 c3 c4 c5 c6 c7
  go_wp2_with fail
  refine ret_cell rfl w.heap.size 35 (Wd.mk ch lo wa re by_ nx).cells rfl ((((((HZ1.out.set 0 _).set 1 _).set 2 _).set 3 _).set 4 _).set 5 _) Try.underlying35 rfl (by kernel_rfl) rfl ?_
  exact ⟨rfl, ((((((HL1.out.setCell (Nat.le_refl _) _).setCell (Nat.le_refl _) _).setCell (Nat.le_refl _) _).setCell (Nat.le_refl _) _).setCell (Nat.le_refl _) _).setCell (Nat.le_refl _) _)⟩
end
section
def whenB (f : Fm) (a : Int) (room : Bool) : Nat → Bool
  | 0 => f.st.lockout
  | 1 => a == 0 && room
  | 2 => a == 0
  | 3 => decide (a < f.half)
  | 4 => decide (256 - f.half ≤ a)
  | _ => true
def doF (f : Fm) : Nat → Fm
  | 1 => ⟨f.craft, f.half, ⟨f.st.chan, f.st.lockout, f.st.wait, false, f.st.bypd, (f.st.next + 1) % 256⟩⟩
  | 2 => ⟨f.craft, f.half, ⟨f.st.chan, f.st.lockout, true, true, f.st.bypd, f.st.next⟩⟩
  | 3 => ⟨f.craft, f.half, ⟨f.st.chan, f.st.lockout, f.st.wait, true, f.st.bypd, f.st.next⟩⟩
  | 5 => ⟨f.craft, f.half, ⟨f.st.chan, true, f.st.wait, f.st.retx, f.st.bypd, f.st.next⟩⟩
  | _ => f
section
variable (f : Fm) (g : Nat) (w : World) (a : Int) (room : Bool)
set_option maxHeartbeats 1000000 in
set_option maxRecDepth 100000 in
theorem when0 (hB : Blk w g f.cells 112) : Calls Try.prog 65 #[.pointer (some ⟨g, 0, none⟩), .agg #[.int .i64 a, .bool room]] w fun e w' => e = .returned (.bool (whenB f a room 0)) ∧ Below w.heap.size w w' := by
  have HB := Lib.hid (hB.alloc (Obj.cells #[.int .i64 a, .bool room] 123)); clear hB
  have c0 := HB.out.cell 0
  have c1 := HB.out.cell 1
  have c2 := HB.out.cell 2
  have c3 := HB.out.cell 3
  have c4 := HB.out.cell 4
  have c5 := HB.out.cell 5
  have c6 := HB.out.cell 6
  have c7 := HB.out.cell 7
  simp only [Fm.cells, List.getElem?_cons_zero, List.getElem?_cons_succ] at c0 c1 c2 c3 c4 c5 c6 c7
  go_enter Try.func65, Try.ntmps65
  go_wp2_with fail
  go_ret
  exact ⟨rfl, (Below.refl _ _).alloc (Nat.le_refl _) _⟩
set_option maxHeartbeats 1000000 in
set_option maxRecDepth 100000 in
theorem when1 : Calls Try.prog 67 #[.pointer (some ⟨g, 0, none⟩), .agg #[.int .i64 a, .bool room]] w fun e w' => e = .returned (.bool (whenB f a room 1)) ∧ Below w.heap.size w w' := by
  go_enter Try.func67, Try.ntmps67
  go_wp2_with fail
  all_goals
    go_ret
    refine ⟨?_, (Below.refl _ _).alloc (Nat.le_refl _) _⟩
    simp_all [whenB]
set_option maxHeartbeats 1000000 in
set_option maxRecDepth 100000 in
theorem when2 : Calls Try.prog 69 #[.pointer (some ⟨g, 0, none⟩), .agg #[.int .i64 a, .bool room]] w fun e w' => e = .returned (.bool (whenB f a room 2)) ∧ Below w.heap.size w w' := by
  go_enter Try.func69, Try.ntmps69
  go_wp2_with fail
  go_ret
  exact ⟨rfl, (Below.refl _ _).alloc (Nat.le_refl _) _⟩
set_option maxHeartbeats 1000000 in
set_option maxRecDepth 100000 in
theorem when3 (hB : Blk w g f.cells 112) : Calls Try.prog 71 #[.pointer (some ⟨g, 0, none⟩), .agg #[.int .i64 a, .bool room]] w fun e w' => e = .returned (.bool (whenB f a room 3)) ∧ Below w.heap.size w w' := by
  have HB := Lib.hid (hB.alloc (Obj.cells #[.int .i64 a, .bool room] 123)); clear hB
  have c0 := HB.out.cell 0
  have c1 := HB.out.cell 1
  have c2 := HB.out.cell 2
  have c3 := HB.out.cell 3
  have c4 := HB.out.cell 4
  have c5 := HB.out.cell 5
  have c6 := HB.out.cell 6
  have c7 := HB.out.cell 7
  simp only [Fm.cells, List.getElem?_cons_zero, List.getElem?_cons_succ] at c0 c1 c2 c3 c4 c5 c6 c7
  go_enter Try.func71, Try.ntmps71
  go_wp2_with fail
  go_quiet (fail)
  go_wp2_with fail
  go_ret
  exact ⟨rfl, ((Below.refl _ _).alloc (Nat.le_refl _) _).trans ((below_quiet _ _).1.mono (by simp))⟩
set_option maxHeartbeats 1000000 in
set_option maxRecDepth 100000 in
theorem when4 (hB : Blk w g f.cells 112) (h0 : 0 ≤ f.half) (h1 : f.half ≤ 255) : Calls Try.prog 73 #[.pointer (some ⟨g, 0, none⟩), .agg #[.int .i64 a, .bool room]] w fun e w' => e = .returned (.bool (whenB f a room 4)) ∧ Below w.heap.size w w' := by
  have HB := Lib.hid (hB.alloc (Obj.cells #[.int .i64 a, .bool room] 123)); clear hB
  have c0 := HB.out.cell 0
  have c1 := HB.out.cell 1
  have c2 := HB.out.cell 2
  have c3 := HB.out.cell 3
  have c4 := HB.out.cell 4
  have c5 := HB.out.cell 5
  have c6 := HB.out.cell 6
  have c7 := HB.out.cell 7
  simp only [Fm.cells, List.getElem?_cons_zero, List.getElem?_cons_succ] at c0 c1 c2 c3 c4 c5 c6 c7
  have hw : IntKind.i64.wrap (256 - f.half) = 256 - f.half := IntWalk.i64_in _ (by omega)
  go_enter Try.func73, Try.ntmps73
  go_wp2_with fail
  go_quiet (fail)
  go_wp2_with fail
  go_ret
  exact ⟨rfl, ((Below.refl _ _).alloc (Nat.le_refl _) _).trans ((below_quiet _ _).1.mono (by simp))⟩
set_option maxHeartbeats 1000000 in
set_option maxRecDepth 100000 in
theorem when5 : Calls Try.prog 75 #[.pointer (some ⟨g, 0, none⟩), .agg #[.int .i64 a, .bool room]] w fun e w' => e = .returned (.bool (whenB f a room 5)) ∧ Below w.heap.size w w' := by
  go_enter Try.func75, Try.ntmps75
  go_wp2_with fail
  go_ret
  exact ⟨rfl, (Below.refl _ _).alloc (Nat.le_refl _) _⟩
set_option maxHeartbeats 1000000 in
set_option maxRecDepth 100000 in
theorem do0 (hB : Blk w g f.cells 112) : Calls Try.prog 66 #[.pointer (some ⟨g, 2, none⟩)] w fun e w' => e = .returned (.tuple #[]) ∧ Keep [g] w w' ∧ Blk w' g (doF f 0).cells 112 := by
  have HB := Lib.hid hB; clear hB
  have c0 := HB.out.cell 0
  have c1 := HB.out.cell 1
  have c2 := HB.out.cell 2
  have c3 := HB.out.cell 3
  have c4 := HB.out.cell 4
  have c5 := HB.out.cell 5
  have c6 := HB.out.cell 6
  have c7 := HB.out.cell 7
  simp only [Fm.cells, List.getElem?_cons_zero, List.getElem?_cons_succ] at c0 c1 c2 c3 c4 c5 c6 c7
  have f0 := HB.out.free 0
  have f1 := HB.out.free 1
  have f2 := HB.out.free 2
  have f3 := HB.out.free 3
  have f4 := HB.out.free 4
  have f5 := HB.out.free 5
  have f6 := HB.out.free 6
  have f7 := HB.out.free 7
  go_enter Try.func66, Try.ntmps66
  go_wp2_with fail
  go_end0
  exact ⟨rfl, Keep.refl _ _, HB.out⟩
set_option maxHeartbeats 1000000 in
set_option maxRecDepth 100000 in
theorem do1 (hB : Blk w g f.cells 112) (h0 : 0 ≤ f.st.next) (h1 : f.st.next ≤ 255) : Calls Try.prog 68 #[.pointer (some ⟨g, 2, none⟩)] w fun e w' => e = .returned (.tuple #[]) ∧ Keep [g] w w' ∧ Blk w' g (doF f 1).cells 112 := by
  have HB := Lib.hid hB; clear hB
  have c0 := HB.out.cell 0
  have c1 := HB.out.cell 1
  have c2 := HB.out.cell 2
  have c3 := HB.out.cell 3
  have c4 := HB.out.cell 4
  have c5 := HB.out.cell 5
  have c6 := HB.out.cell 6
  have c7 := HB.out.cell 7
  simp only [Fm.cells, List.getElem?_cons_zero, List.getElem?_cons_succ] at c0 c1 c2 c3 c4 c5 c6 c7
  have f0 := HB.out.free 0
  have f1 := HB.out.free 1
  have f2 := HB.out.free 2
  have f3 := HB.out.free 3
  have f4 := HB.out.free 4
  have f5 := HB.out.free 5
  have f6 := HB.out.free 6
  have f7 := HB.out.free 7
  go_enter Try.func68, Try.ntmps68
  go_wp2_with fail
  go_end0
  exact ⟨rfl, ((Keep.refl _ _).setCell (.inl (by simp)) _).setCell (.inl (by simp)) _, (HB.out.set 7 _).set 5 _⟩
set_option maxHeartbeats 1000000 in
set_option maxRecDepth 100000 in
theorem do2 (hB : Blk w g f.cells 112) : Calls Try.prog 70 #[.pointer (some ⟨g, 2, none⟩)] w fun e w' => e = .returned (.tuple #[]) ∧ Keep [g] w w' ∧ Blk w' g (doF f 2).cells 112 := by
  have HB := Lib.hid hB; clear hB
  have c0 := HB.out.cell 0
  have c1 := HB.out.cell 1
  have c2 := HB.out.cell 2
  have c3 := HB.out.cell 3
  have c4 := HB.out.cell 4
  have c5 := HB.out.cell 5
  have c6 := HB.out.cell 6
  have c7 := HB.out.cell 7
  simp only [Fm.cells, List.getElem?_cons_zero, List.getElem?_cons_succ] at c0 c1 c2 c3 c4 c5 c6 c7
  have f0 := HB.out.free 0
  have f1 := HB.out.free 1
  have f2 := HB.out.free 2
  have f3 := HB.out.free 3
  have f4 := HB.out.free 4
  have f5 := HB.out.free 5
  have f6 := HB.out.free 6
  have f7 := HB.out.free 7
  go_enter Try.func70, Try.ntmps70
  go_wp2_with fail
  go_end0
  exact ⟨rfl, ((Keep.refl _ _).setCell (.inl (by simp)) _).setCell (.inl (by simp)) _, (HB.out.set 4 _).set 5 _⟩
set_option maxHeartbeats 1000000 in
set_option maxRecDepth 100000 in
theorem do3 (hB : Blk w g f.cells 112) : Calls Try.prog 72 #[.pointer (some ⟨g, 2, none⟩)] w fun e w' => e = .returned (.tuple #[]) ∧ Keep [g] w w' ∧ Blk w' g (doF f 3).cells 112 := by
  have HB := Lib.hid hB; clear hB
  have c0 := HB.out.cell 0
  have c1 := HB.out.cell 1
  have c2 := HB.out.cell 2
  have c3 := HB.out.cell 3
  have c4 := HB.out.cell 4
  have c5 := HB.out.cell 5
  have c6 := HB.out.cell 6
  have c7 := HB.out.cell 7
  simp only [Fm.cells, List.getElem?_cons_zero, List.getElem?_cons_succ] at c0 c1 c2 c3 c4 c5 c6 c7
  have f0 := HB.out.free 0
  have f1 := HB.out.free 1
  have f2 := HB.out.free 2
  have f3 := HB.out.free 3
  have f4 := HB.out.free 4
  have f5 := HB.out.free 5
  have f6 := HB.out.free 6
  have f7 := HB.out.free 7
  go_enter Try.func72, Try.ntmps72
  go_wp2_with fail
  go_end0
  exact ⟨rfl, (Keep.refl _ _).setCell (.inl (by simp)) _, HB.out.set 5 _⟩
set_option maxHeartbeats 1000000 in
set_option maxRecDepth 100000 in
theorem do4 (hB : Blk w g f.cells 112) : Calls Try.prog 74 #[.pointer (some ⟨g, 2, none⟩)] w fun e w' => e = .returned (.tuple #[]) ∧ Keep [g] w w' ∧ Blk w' g (doF f 4).cells 112 := by
  have HB := Lib.hid hB; clear hB
  have c0 := HB.out.cell 0
  have c1 := HB.out.cell 1
  have c2 := HB.out.cell 2
  have c3 := HB.out.cell 3
  have c4 := HB.out.cell 4
  have c5 := HB.out.cell 5
  have c6 := HB.out.cell 6
  have c7 := HB.out.cell 7
  simp only [Fm.cells, List.getElem?_cons_zero, List.getElem?_cons_succ] at c0 c1 c2 c3 c4 c5 c6 c7
  have f0 := HB.out.free 0
  have f1 := HB.out.free 1
  have f2 := HB.out.free 2
  have f3 := HB.out.free 3
  have f4 := HB.out.free 4
  have f5 := HB.out.free 5
  have f6 := HB.out.free 6
  have f7 := HB.out.free 7
  go_enter Try.func74, Try.ntmps74
  go_wp2_with fail
  go_end0
  exact ⟨rfl, Keep.refl _ _, HB.out⟩
set_option maxHeartbeats 1000000 in
set_option maxRecDepth 100000 in
theorem do5 (hB : Blk w g f.cells 112) : Calls Try.prog 76 #[.pointer (some ⟨g, 2, none⟩)] w fun e w' => e = .returned (.tuple #[]) ∧ Keep [g] w w' ∧ Blk w' g (doF f 5).cells 112 := by
  have HB := Lib.hid hB; clear hB
  have c0 := HB.out.cell 0
  have c1 := HB.out.cell 1
  have c2 := HB.out.cell 2
  have c3 := HB.out.cell 3
  have c4 := HB.out.cell 4
  have c5 := HB.out.cell 5
  have c6 := HB.out.cell 6
  have c7 := HB.out.cell 7
  simp only [Fm.cells, List.getElem?_cons_zero, List.getElem?_cons_succ] at c0 c1 c2 c3 c4 c5 c6 c7
  have f0 := HB.out.free 0
  have f1 := HB.out.free 1
  have f2 := HB.out.free 2
  have f3 := HB.out.free 3
  have f4 := HB.out.free 4
  have f5 := HB.out.free 5
  have f6 := HB.out.free 6
  have f7 := HB.out.free 7
  go_enter Try.func76, Try.ntmps76
  go_wp2_with fail
  go_end0
  exact ⟨rfl, (Keep.refl _ _).setCell (.inl (by simp)) _, HB.out.set 3 _⟩
end
end
section
/-- What a bypass frame does: the automaton after it, and the answer. -/
def bypassF (f : Fm) (x : Tc) : Fm × Bool × Int :=
  if x.ctl then
    if x.ctl3.2.2 then
      (⟨f.craft, f.half, if x.ctl3.1 then ⟨f.st.chan, false, false, false, (f.st.bypd + 1) % 4, f.st.next⟩
        else if f.st.lockout then ⟨f.st.chan, true, f.st.wait, f.st.retx, (f.st.bypd + 1) % 4, f.st.next⟩
        else ⟨f.st.chan, false, false, false, (f.st.bypd + 1) % 4, x.ctl3.2.1⟩⟩, false, 0)
    else (f, false, 6)
  else (⟨f.craft, f.half, ⟨f.st.chan, f.st.lockout, f.st.wait, f.st.retx, (f.st.bypd + 1) % 4, f.st.next⟩⟩, true, 0)
theorem and3 (b : Int) (h0 : 0 ≤ b) (h1 : b ≤ 3) : bits .and .i64 (b + 1) 3 = (b + 1) % 4 := by
  have h : b = 0 ∨ b = 1 ∨ b = 2 ∨ b = 3 := by omega
  rcases h with rfl | rfl | rfl | rfl <;> decide
set_option maxHeartbeats 4000000 in
set_option maxRecDepth 100000 in
theorem bypass_any (f : Fm) (x : Tc) (g : Nat) (w : World) (h0 : 0 ≤ f.st.bypd) (h1 : f.st.bypd ≤ 3) (hB : Blk w g f.cells 112) :
    Calls Try.prog 59 #[.pointer (some ⟨g, 0, none⟩), x.val] w fun e w' => e = .returned (.tuple #[.bool (bypassF f x).2.1, .int .i64 (bypassF f x).2.2]) ∧ Keep [g] w w' ∧ Blk w' g (bypassF f x).1.cells 112 := by
  have hcv := Control_any x
  obtain ⟨⟨u, n, ok⟩, h3⟩ : ∃ y, y = x.ctl3 := ⟨_, rfl⟩
  unfold Tc.ctlV out3 at hcv
  unfold bypassF
  rw [← h3] at hcv ⊢
  clear h3
  obtain ⟨c, ch, b, k, s, d⟩ := x
  obtain ⟨cr, hf, ⟨fc, lo, wa, re, by_, nx⟩⟩ := f
  simp only [Tc.val] at hcv h0 h1 ⊢
  have hlt : g < w.heap.size := hB.lt
  obtain ⟨m, hm⟩ : ∃ m, m = (by_ + 1) % 4 := ⟨_, rfl⟩
  have ha : bits .and .i64 (by_ + 1) 3 = m := by rw [hm]; exact and3 _ h0 h1
  rw [← hm]
  clear hm
  have HC := Lib.hid hcv; clear hcv
  have HK := Lib.hid (((Keep.refl [g] w).alloc (Obj.cells #[.int .i64 c, .int .i64 ch, .bool b, .bool k, .int .i64 s, .string d] 31)).alloc (Obj.cells #[.int .i64 fc, .bool lo, .bool wa, .bool re, .int .i64 m, .int .i64 nx] 35))
  have HF := Lib.hid ((hB.alloc (Obj.cells #[.int .i64 c, .int .i64 ch, .bool b, .bool k, .int .i64 s, .string d] 31)).alloc (Obj.cells #[.int .i64 fc, .bool lo, .bool wa, .bool re, .int .i64 m, .int .i64 nx] 35))
  have HX := Lib.hid ((Blk.new w [.int .i64 c, .int .i64 ch, .bool b, .bool k, .int .i64 s, .string d] 31).alloc (Obj.cells #[.int .i64 fc, .bool lo, .bool wa, .bool re, .int .i64 m, .int .i64 nx] 35))
  have HW := Lib.hid (Blk.new_at (w.alloc (Obj.cells #[.int .i64 c, .int .i64 ch, .bool b, .bool k, .int .i64 s, .string d] 31)) [.int .i64 fc, .bool lo, .bool wa, .bool re, .int .i64 m, .int .i64 nx] 35 (w.heap.size + 1) (by simp))
  have HB0 := Lib.hid hB
  have HF0 := Lib.hid (hB.alloc (Obj.cells #[.int .i64 c, .int .i64 ch, .bool b, .bool k, .int .i64 s, .string d] 31)); clear hB
  have c0 := HF0.out.cell 0
  have c1 := HF0.out.cell 1
  have c2 := HF0.out.cell 2
  have c3 := HF0.out.cell 3
  have c4 := HF0.out.cell 4
  have c5 := HF0.out.cell 5
  have c6 := HF0.out.cell 6
  have c7 := HF0.out.cell 7
  simp only [Fm.cells, List.getElem?_cons_zero, List.getElem?_cons_succ] at c0 c1 c2 c3 c4 c5 c6 c7
  have q0 := HB0.out.cell 0
  have q1 := HB0.out.cell 1
  have q2 := HB0.out.cell 2
  have q3 := HB0.out.cell 3
  have q4 := HB0.out.cell 4
  have q5 := HB0.out.cell 5
  have q6 := HB0.out.cell 6
  have q7 := HB0.out.cell 7
  simp only [Fm.cells, List.getElem?_cons_zero, List.getElem?_cons_succ] at q0 q1 q2 q3 q4 q5 q6 q7
  have r0 := HB0.out.free 0
  have r1 := HB0.out.free 1
  have r2 := HB0.out.free 2
  have r3 := HB0.out.free 3
  have r4 := HB0.out.free 4
  have r5 := HB0.out.free 5
  have r6 := HB0.out.free 6
  have r7 := HB0.out.free 7
  cases k
  · go_enter Try.func59, Try.ntmps59
    go_wp2_with fail
    go_ret2
    exact ⟨rfl, ((((((((Keep.refl [g] w).setCell (.inl (by simp)) _).setCell (.inl (by simp)) _).setCell (.inl (by simp)) _).setCell (.inl (by simp)) _).setCell (.inl (by simp)) _).setCell (.inl (by simp)) _).alloc _).alloc _, (((((((HB0.out.set 2 _).set 3 _).set 4 _).set 5 _).set 6 _).set 7 _).alloc _).alloc _⟩
  · go_enter Try.func59, Try.ntmps59
    go_wp2_with fail
    refine (HC.out _).mono ?_
    rintro e w1 ⟨rfl, hL1⟩
    clear q0 q1 q2 q3 q4 q5 q6 q7 r0 r1 r2 r3 r4 r5 r6 r7 c0 c1 c2 c3 c4 c5 c6 c7
    have HK1 := Lib.hid (HK.out.below hL1 (by simp; omega))
    have HF1 := Lib.hid (HF.out.below hL1 (by simp; omega))
    have HX1 := Lib.hid (HX.out.below hL1 (by simp; omega))
    have HW1 := Lib.hid (HW.out.below hL1 (by simp))
    have hs1 : w.heap.size + 2 ≤ w1.heap.size := by have := hL1.size; simp at this; omega
    clear hL1
    have c0 := HF1.out.cell 0
    have c1 := HF1.out.cell 1
    have c2 := HF1.out.cell 2
    have c3 := HF1.out.cell 3
    have c4 := HF1.out.cell 4
    have c5 := HF1.out.cell 5
    have c6 := HF1.out.cell 6
    have c7 := HF1.out.cell 7
    simp only [Fm.cells, List.getElem?_cons_zero, List.getElem?_cons_succ] at c0 c1 c2 c3 c4 c5 c6 c7
    have r0 := HF1.out.free 0
    have r1 := HF1.out.free 1
    have r2 := HF1.out.free 2
    have r3 := HF1.out.free 3
    have r4 := HF1.out.free 4
    have r5 := HF1.out.free 5
    have r6 := HF1.out.free 6
    have r7 := HF1.out.free 7
    have x0 := HX1.out.cell 0
    have x1 := HX1.out.cell 1
    have x2 := HX1.out.cell 2
    have x3 := HX1.out.cell 3
    have x4 := HX1.out.cell 4
    have x5 := HX1.out.cell 5
    simp only [List.getElem?_cons_zero, List.getElem?_cons_succ] at x0 x1 x2 x3 x4 x5
    have q0 := HW1.out.cell 0
    have q1 := HW1.out.cell 1
    have q2 := HW1.out.cell 2
    have q3 := HW1.out.cell 3
    have q4 := HW1.out.cell 4
    have q5 := HW1.out.cell 5
    simp only [List.getElem?_cons_zero, List.getElem?_cons_succ] at q0 q1 q2 q3 q4 q5
    have p0 := HW1.out.free 0
    have p1 := HW1.out.free 1
    have p2 := HW1.out.free 2
    have p3 := HW1.out.free 3
    have p4 := HW1.out.free 4
    have p5 := HW1.out.free 5
    cases ok
    · go_wp2_with fail
      go_ret2
      exact ⟨rfl, HK1.out, HF1.out⟩
    · cases u
      · cases lo
        · go_wp2_with fail
          go_ret2
          exact ⟨rfl, ((((((((((HK1.out.setCell (.inr (by simp)) _).setCell (.inr (by simp)) _).setCell (.inr (by simp)) _).setCell (.inr (by simp)) _).setCell (.inl (by simp)) _).setCell (.inl (by simp)) _).setCell (.inl (by simp)) _).setCell (.inl (by simp)) _).setCell (.inl (by simp)) _).setCell (.inl (by simp)) _), ((((((((((HF1.out.set_far (by simp; omega) _).set_far (by simp; omega) _).set_far (by simp; omega) _).set_far (by simp; omega) _).set 2 _).set 3 _).set 4 _).set 5 _).set 6 _).set 7 _)⟩
        · go_wp2_with fail
          go_ret2
          exact ⟨rfl, (((((HK1.out.setCell (.inl (by simp)) _).setCell (.inl (by simp)) _).setCell (.inl (by simp)) _).setCell (.inl (by simp)) _).setCell (.inl (by simp)) _).setCell (.inl (by simp)) _, (((((HF1.out.set 2 _).set 3 _).set 4 _).set 5 _).set 6 _).set 7 _⟩
      · go_wp2_with fail
        go_ret2
        exact ⟨rfl, (((((((((HK1.out.setCell (.inr (by simp)) _).setCell (.inr (by simp)) _).setCell (.inr (by simp)) _).setCell (.inl (by simp)) _).setCell (.inl (by simp)) _).setCell (.inl (by simp)) _).setCell (.inl (by simp)) _).setCell (.inl (by simp)) _).setCell (.inl (by simp)) _), (((((((((HF1.out.set_far (by simp; omega) _).set_far (by simp; omega) _).set_far (by simp; omega) _).set 2 _).set 3 _).set 4 _).set 5 _).set 6 _).set 7 _)⟩
end
section
def acts : List Value := [.func (.func 65) #[] #[], .func (.func 66) #[] #[], .func (.func 67) #[] #[], .func (.func 68) #[] #[], .func (.func 69) #[] #[], .func (.func 70) #[] #[], .func (.func 71) #[] #[], .func (.func 72) #[] #[], .func (.func 73) #[] #[], .func (.func 74) #[] #[], .func (.func 75) #[] #[], .func (.func 76) #[] #[]]
theorem gen_act {P : Program} {ops : Array Oper} {Q : Exit → Act → World → Prop} {l : List Oper} {a : Act} {W : World} (φ : World → Prop) (h : φ W) (g : ∀ w, φ w → wpList P ops Q l a w) : wpList P ops Q l a W := g W h
theorem store_fn0 (w : World) (t : TypeId) (f : Fn) (x y : Value) : (store ⟨w.heap.size, 0, none⟩ (.func f #[] #[])).run Try.prog (w.alloc (.cells #[x, y] t)) = .ok () (w.alloc (.cells #[.func f #[] #[], y] t)) := by
  have h := (Blk.new w [x, y] t)
  have c0 := h.cell 0
  have f0 := h.free 0
  rw [run_store _ _ _ _ _ rfl]
  simp only [List.getElem?_cons_zero] at c0
  simp [c0, f0]
  go_simp
theorem store_fn1 (w : World) (t : TypeId) (f : Fn) (x y : Value) : (store ⟨w.heap.size, 1, none⟩ (.func f #[] #[])).run Try.prog (w.alloc (.cells #[x, y] t)) = .ok () (w.alloc (.cells #[x, .func f #[] #[]] t)) := by
  have h := (Blk.new w [x, y] t)
  have c0 := h.cell 1
  have f0 := h.free 1
  rw [run_store _ _ _ _ _ rfl]
  simp only [List.getElem?_cons_zero, List.getElem?_cons_succ] at c0
  simp [c0, f0]
  go_simp
set_option maxHeartbeats 4000000 in
set_option maxRecDepth 100000 in
theorem actions_any (w : World) : Calls Try.prog 60 #[] w fun e w' => e = .returned (.slice (some ⟨w.heap.size, 0, none⟩) 6 6) ∧ Below w.heap.size w w' ∧ Blk w' w.heap.size acts 129 := by
  go_enter Try.func60, Try.ntmps60
  go_wp2_with fail
  go_ret
  exact ⟨rfl, (Below.refl _ _).alloc (Nat.le_refl _) _, Blk.new w acts _⟩
def Fm.ok (f : Fm) : Prop := 1 ≤ f.half ∧ f.half ≤ 127 ∧ 0 ≤ f.st.bypd ∧ f.st.bypd ≤ 3 ∧ 0 ≤ f.st.next ∧ f.st.next ≤ 255
/-- The number of the action that is taken. -/
def firstAct (f : Fm) (a : Int) (room : Bool) : Nat :=
  if whenB f a room 0 then 0 else if whenB f a room 1 then 1 else if whenB f a room 2 then 2 else if whenB f a room 3 then 3 else if whenB f a room 4 then 4 else 5
theorem firstAct_le (f : Fm) (a : Int) (room : Bool) : firstAct f a room ≤ 5 := by
  by_cases h : firstAct f a room ≤ 5
  · exact h
  · exfalso; apply h; unfold firstAct; split
    · omega
    split
    · omega
    split
    · omega
    split
    · omega
    split <;> omega
theorem firstAct_when (f : Fm) (a : Int) (room : Bool) (k : Nat) (h : k ≤ firstAct f a room) : whenB f a room k = decide (k = firstAct f a room) := by
  have h5 := firstAct_le f a room
  unfold firstAct at h ⊢
  have hk : k = 0 ∨ k = 1 ∨ k = 2 ∨ k = 3 ∨ k = 4 ∨ k = 5 := by unfold firstAct at h5; omega
  rcases hk with rfl | rfl | rfl | rfl | rfl | rfl
  all_goals
    cases h0 : whenB f a room 0 <;> cases h1 : whenB f a room 1 <;> cases h2 : whenB f a room 2 <;> cases h3 : whenB f a room 3 <;> cases h4 : whenB f a room 4 <;> simp [h0, h1, h2, h3, h4] at h ⊢ <;> rfl
/-- What Take does: the automaton after it, and the answer. -/
def takeF (f : Fm) (x : Tc) (room : Bool) : Fm × Bool × Int :=
  if x.good && (x.craft == f.craft) && (x.chan == f.st.chan) then
    if x.byp then bypassF f x
    else
      let a := (x.seq - f.st.next) % 256
      let f' := doF f (firstAct f a room)
      (f', f'.st.next != f.st.next, 0)
  else (f, false, 2)
theorem and255 : ∀ n : Nat, n < 511 → bits .and .i64 ((n : Int) - 255) 255 = ((n : Int) - 255) % 256 := by decide +kernel
theorem and255' (d : Int) (h0 : -255 ≤ d) (h1 : d ≤ 255) : bits .and .i64 d 255 = d % 256 := by
  have := and255 (d + 255).toNat (by omega)
  rw [show (((d + 255).toNat : Nat) : Int) - 255 = d by omega] at this
  exact this
set_option maxHeartbeats 4000000 in
set_option maxRecDepth 100000 in
theorem Take_bad (c ch : Int) (b k : Bool) (s : Int) (d : ByteArray) (cr hf fc : Int) (lo wa re : Bool) (by_ nx : Int) (room : Bool) (g : Nat) (w : World) (hok : (Fm.mk cr hf ⟨fc, lo, wa, re, by_, nx⟩).ok) (hB : Blk w g (Fm.mk cr hf ⟨fc, lo, wa, re, by_, nx⟩).cells 112)
    (hg : (Tc.mk c ch b k s d).good = false) :
    Calls Try.prog 53 #[.pointer (some ⟨g, 0, none⟩), (Tc.mk c ch b k s d).val, .bool room] w fun e w' => e = .returned (.tuple #[.bool false, .int .i64 2]) ∧ Keep [g] w w' ∧ Blk w' g (Fm.mk cr hf ⟨fc, lo, wa, re, by_, nx⟩).cells 112 := by
  have hP := Put_any (Tc.mk c ch b k s d)
  obtain ⟨hk1, hk2, hk3, hk4, hk5, hk6⟩ := hok
  have hlt : g < w.heap.size := hB.lt
  have hne : ((Fm.mk cr hf ⟨fc, lo, wa, re, by_, nx⟩).half == 0) = false := by
    have : hf ≠ 0 := by simp only at hk1; omega
    simpa using this
  have hnone := fun w h => none_any (Fm.mk cr hf ⟨fc, lo, wa, re, by_, nx⟩) g w false hne h
  clear hne
  have hsq : (Tc.mk c ch b k s d).good = true → 0 ≤ s ∧ s ≤ 255 := fun h => by have := (Tc.good_iff _).1 h; simp only at this; omega
  unfold Tc.putV at hP
  obtain ⟨s0, hs0⟩ : ∃ s0 : ByteArray, strOf (Tc.mk c ch b k s d).enc = .string s0 := ⟨_, rfl⟩
  rw [hs0] at hP
  clear hs0
  rw [hg] at hP
  clear hg hsq
  simp only [Tc.val] at hP hk1 hk2 hk3 hk4 hk5 hk6 ⊢
  have HP := Lib.hid hP; have HN := Lib.hid hnone; clear hP hnone
  have HK := Lib.hid ((Keep.refl [g] w).alloc (Obj.cells #[.int .i64 c, .int .i64 ch, .bool b, .bool k, .int .i64 s, .string d] 31))
  have HF := Lib.hid (hB.alloc (Obj.cells #[.int .i64 c, .int .i64 ch, .bool b, .bool k, .int .i64 s, .string d] 31))
  have HX := Lib.hid (Blk.new w [.int .i64 c, .int .i64 ch, .bool b, .bool k, .int .i64 s, .string d] 31)
  clear hB
  go_enter Try.func53, Try.ntmps53
  go_wp2_with fail
  refine (HN.out _ HF.out).mono ?_
  rintro e w1 ⟨rfl, rfl⟩
  go_wp2_with fail
  refine (HP.out _).mono ?_
  rintro e w1 ⟨rfl, hL1⟩
  have HK1 := Lib.hid (HK.out.below hL1 (by simp))
  have HF1 := Lib.hid (HF.out.below hL1 (by simp; omega))
  have HX1 := Lib.hid (HX.out.below hL1 (by simp))
  have hs1 : w.heap.size + 1 ≤ w1.heap.size := by have := hL1.size; simp at this; omega
  clear hL1
  have c0 := HF1.out.cell 0
  have c1 := HF1.out.cell 1
  have c2 := HF1.out.cell 2
  have c3 := HF1.out.cell 3
  have c4 := HF1.out.cell 4
  have c5 := HF1.out.cell 5
  have c6 := HF1.out.cell 6
  have c7 := HF1.out.cell 7
  simp only [Fm.cells, List.getElem?_cons_zero, List.getElem?_cons_succ] at c0 c1 c2 c3 c4 c5 c6 c7
  have x0 := HX1.out.cell 0
  have x1 := HX1.out.cell 1
  have x2 := HX1.out.cell 2
  have x3 := HX1.out.cell 3
  have x4 := HX1.out.cell 4
  have x5 := HX1.out.cell 5
  simp only [List.getElem?_cons_zero, List.getElem?_cons_succ] at x0 x1 x2 x3 x4 x5
  go_wp2_with fail
  go_quiet (fail)
  go_wp2_with fail
  go_ret2
  exact ⟨rfl, HK1.out.drewN _, HF1.out.drewN _⟩
set_option maxHeartbeats 4000000 in
set_option maxRecDepth 100000 in
theorem Take_craft (c ch : Int) (b k : Bool) (s : Int) (d : ByteArray) (cr hf fc : Int) (lo wa re : Bool) (by_ nx : Int) (room : Bool) (g : Nat) (w : World) (hok : (Fm.mk cr hf ⟨fc, lo, wa, re, by_, nx⟩).ok) (hB : Blk w g (Fm.mk cr hf ⟨fc, lo, wa, re, by_, nx⟩).cells 112)
    (hg : (Tc.mk c ch b k s d).good = true) (hc1 : (c != cr) = true) :
    Calls Try.prog 53 #[.pointer (some ⟨g, 0, none⟩), (Tc.mk c ch b k s d).val, .bool room] w fun e w' => e = .returned (.tuple #[.bool false, .int .i64 2]) ∧ Keep [g] w w' ∧ Blk w' g (Fm.mk cr hf ⟨fc, lo, wa, re, by_, nx⟩).cells 112 := by
  have hP := Put_any (Tc.mk c ch b k s d)
  obtain ⟨hk1, hk2, hk3, hk4, hk5, hk6⟩ := hok
  have hlt : g < w.heap.size := hB.lt
  have hne : ((Fm.mk cr hf ⟨fc, lo, wa, re, by_, nx⟩).half == 0) = false := by
    have : hf ≠ 0 := by simp only at hk1; omega
    simpa using this
  have hnone := fun w h => none_any (Fm.mk cr hf ⟨fc, lo, wa, re, by_, nx⟩) g w false hne h
  clear hne
  have hsq : (Tc.mk c ch b k s d).good = true → 0 ≤ s ∧ s ≤ 255 := fun h => by have := (Tc.good_iff _).1 h; simp only at this; omega
  unfold Tc.putV at hP
  obtain ⟨s0, hs0⟩ : ∃ s0 : ByteArray, strOf (Tc.mk c ch b k s d).enc = .string s0 := ⟨_, rfl⟩
  rw [hs0] at hP
  clear hs0
  rw [hg] at hP
  obtain ⟨hs0, hs2⟩ := hsq hg
  clear hg hsq
  simp only [Tc.val] at hP hk1 hk2 hk3 hk4 hk5 hk6 ⊢
  have HP := Lib.hid hP; have HN := Lib.hid hnone; clear hP hnone
  have HK := Lib.hid ((Keep.refl [g] w).alloc (Obj.cells #[.int .i64 c, .int .i64 ch, .bool b, .bool k, .int .i64 s, .string d] 31))
  have HF := Lib.hid (hB.alloc (Obj.cells #[.int .i64 c, .int .i64 ch, .bool b, .bool k, .int .i64 s, .string d] 31))
  have HX := Lib.hid (Blk.new w [.int .i64 c, .int .i64 ch, .bool b, .bool k, .int .i64 s, .string d] 31)
  clear hB
  go_enter Try.func53, Try.ntmps53
  go_wp2_with fail
  refine (HN.out _ HF.out).mono ?_
  rintro e w1 ⟨rfl, rfl⟩
  go_wp2_with fail
  refine (HP.out _).mono ?_
  rintro e w1 ⟨rfl, hL1⟩
  have HK1 := Lib.hid (HK.out.below hL1 (by simp))
  have HF1 := Lib.hid (HF.out.below hL1 (by simp; omega))
  have HX1 := Lib.hid (HX.out.below hL1 (by simp))
  have hs1 : w.heap.size + 1 ≤ w1.heap.size := by have := hL1.size; simp at this; omega
  clear hL1
  have c0 := HF1.out.cell 0
  have c1 := HF1.out.cell 1
  have c2 := HF1.out.cell 2
  have c3 := HF1.out.cell 3
  have c4 := HF1.out.cell 4
  have c5 := HF1.out.cell 5
  have c6 := HF1.out.cell 6
  have c7 := HF1.out.cell 7
  simp only [Fm.cells, List.getElem?_cons_zero, List.getElem?_cons_succ] at c0 c1 c2 c3 c4 c5 c6 c7
  have x0 := HX1.out.cell 0
  have x1 := HX1.out.cell 1
  have x2 := HX1.out.cell 2
  have x3 := HX1.out.cell 3
  have x4 := HX1.out.cell 4
  have x5 := HX1.out.cell 5
  simp only [List.getElem?_cons_zero, List.getElem?_cons_succ] at x0 x1 x2 x3 x4 x5
  go_wp2_with fail
  go_quiet (fail)
  go_wp2_with fail
  go_ret2
  exact ⟨rfl, HK1.out.drewN _, HF1.out.drewN _⟩
set_option maxHeartbeats 4000000 in
set_option maxRecDepth 100000 in
theorem Take_chan (c ch : Int) (b k : Bool) (s : Int) (d : ByteArray) (cr hf fc : Int) (lo wa re : Bool) (by_ nx : Int) (room : Bool) (g : Nat) (w : World) (hok : (Fm.mk cr hf ⟨fc, lo, wa, re, by_, nx⟩).ok) (hB : Blk w g (Fm.mk cr hf ⟨fc, lo, wa, re, by_, nx⟩).cells 112)
    (hg : (Tc.mk c ch b k s d).good = true) (hc1 : c = cr) (hc2 : (ch != fc) = true) :
    Calls Try.prog 53 #[.pointer (some ⟨g, 0, none⟩), (Tc.mk c ch b k s d).val, .bool room] w fun e w' => e = .returned (.tuple #[.bool false, .int .i64 2]) ∧ Keep [g] w w' ∧ Blk w' g (Fm.mk cr hf ⟨fc, lo, wa, re, by_, nx⟩).cells 112 := by
  have hP := Put_any (Tc.mk c ch b k s d)
  obtain ⟨hk1, hk2, hk3, hk4, hk5, hk6⟩ := hok
  have hlt : g < w.heap.size := hB.lt
  have hne : ((Fm.mk cr hf ⟨fc, lo, wa, re, by_, nx⟩).half == 0) = false := by
    have : hf ≠ 0 := by simp only at hk1; omega
    simpa using this
  have hnone := fun w h => none_any (Fm.mk cr hf ⟨fc, lo, wa, re, by_, nx⟩) g w false hne h
  clear hne
  have hsq : (Tc.mk c ch b k s d).good = true → 0 ≤ s ∧ s ≤ 255 := fun h => by have := (Tc.good_iff _).1 h; simp only at this; omega
  unfold Tc.putV at hP
  obtain ⟨s0, hs0⟩ : ∃ s0 : ByteArray, strOf (Tc.mk c ch b k s d).enc = .string s0 := ⟨_, rfl⟩
  rw [hs0] at hP
  clear hs0
  rw [hg] at hP
  obtain ⟨hs0, hs2⟩ := hsq hg
  clear hg hsq
  subst hc1
  simp only [Tc.val] at hP hk1 hk2 hk3 hk4 hk5 hk6 ⊢
  have HP := Lib.hid hP; have HN := Lib.hid hnone; clear hP hnone
  have HK := Lib.hid ((Keep.refl [g] w).alloc (Obj.cells #[.int .i64 c, .int .i64 ch, .bool b, .bool k, .int .i64 s, .string d] 31))
  have HF := Lib.hid (hB.alloc (Obj.cells #[.int .i64 c, .int .i64 ch, .bool b, .bool k, .int .i64 s, .string d] 31))
  have HX := Lib.hid (Blk.new w [.int .i64 c, .int .i64 ch, .bool b, .bool k, .int .i64 s, .string d] 31)
  clear hB
  go_enter Try.func53, Try.ntmps53
  go_wp2_with fail
  refine (HN.out _ HF.out).mono ?_
  rintro e w1 ⟨rfl, rfl⟩
  go_wp2_with fail
  refine (HP.out _).mono ?_
  rintro e w1 ⟨rfl, hL1⟩
  have HK1 := Lib.hid (HK.out.below hL1 (by simp))
  have HF1 := Lib.hid (HF.out.below hL1 (by simp; omega))
  have HX1 := Lib.hid (HX.out.below hL1 (by simp))
  have hs1 : w.heap.size + 1 ≤ w1.heap.size := by have := hL1.size; simp at this; omega
  clear hL1
  have c0 := HF1.out.cell 0
  have c1 := HF1.out.cell 1
  have c2 := HF1.out.cell 2
  have c3 := HF1.out.cell 3
  have c4 := HF1.out.cell 4
  have c5 := HF1.out.cell 5
  have c6 := HF1.out.cell 6
  have c7 := HF1.out.cell 7
  simp only [Fm.cells, List.getElem?_cons_zero, List.getElem?_cons_succ] at c0 c1 c2 c3 c4 c5 c6 c7
  have x0 := HX1.out.cell 0
  have x1 := HX1.out.cell 1
  have x2 := HX1.out.cell 2
  have x3 := HX1.out.cell 3
  have x4 := HX1.out.cell 4
  have x5 := HX1.out.cell 5
  simp only [List.getElem?_cons_zero, List.getElem?_cons_succ] at x0 x1 x2 x3 x4 x5
  go_wp2_with fail
  go_quiet (fail)
  go_wp2_with fail
  go_ret2
  exact ⟨rfl, HK1.out.drewN _, HF1.out.drewN _⟩
set_option maxHeartbeats 4000000 in
set_option maxRecDepth 100000 in
theorem Take_by (c ch : Int) (k : Bool) (s : Int) (d : ByteArray) (hf : Int) (lo wa re : Bool) (by_ nx : Int) (room : Bool) (g : Nat) (w : World) (hok : (Fm.mk c hf ⟨ch, lo, wa, re, by_, nx⟩).ok) (hB : Blk w g (Fm.mk c hf ⟨ch, lo, wa, re, by_, nx⟩).cells 112)
    (hg : (Tc.mk c ch true k s d).good = true) :
    Calls Try.prog 53 #[.pointer (some ⟨g, 0, none⟩), (Tc.mk c ch true k s d).val, .bool room] w fun e w' => e = .returned (.tuple #[.bool (bypassF (Fm.mk c hf ⟨ch, lo, wa, re, by_, nx⟩) (Tc.mk c ch true k s d)).2.1, .int .i64 (bypassF (Fm.mk c hf ⟨ch, lo, wa, re, by_, nx⟩) (Tc.mk c ch true k s d)).2.2]) ∧ Keep [g] w w' ∧ Blk w' g (bypassF (Fm.mk c hf ⟨ch, lo, wa, re, by_, nx⟩) (Tc.mk c ch true k s d)).1.cells 112 := by
  have hP := Put_any (Tc.mk c ch true k s d)
  obtain ⟨hk1, hk2, hk3, hk4, hk5, hk6⟩ := hok
  have hlt : g < w.heap.size := hB.lt
  have hne : ((Fm.mk c hf ⟨ch, lo, wa, re, by_, nx⟩).half == 0) = false := by
    have : hf ≠ 0 := by simp only at hk1; omega
    simpa using this
  have hnone := fun w h => none_any (Fm.mk c hf ⟨ch, lo, wa, re, by_, nx⟩) g w false hne h
  clear hne
  have hsq : (Tc.mk c ch true k s d).good = true → 0 ≤ s ∧ s ≤ 255 := fun h => by have := (Tc.good_iff _).1 h; simp only at this; omega
  unfold Tc.putV at hP
  obtain ⟨s0, hs0⟩ : ∃ s0 : ByteArray, strOf (Tc.mk c ch true k s d).enc = .string s0 := ⟨_, rfl⟩
  rw [hs0] at hP
  clear hs0
  have hby := fun w h => bypass_any (Fm.mk c hf ⟨ch, lo, wa, re, by_, nx⟩) (Tc.mk c ch true k s d) g w hk3 hk4 h
  simp only [Tc.val] at hby
  have HY := Lib.hid hby; clear hby
  rw [hg] at hP
  obtain ⟨hs0, hs2⟩ := hsq hg
  clear hg hsq
  simp only [Tc.val] at hP hk1 hk2 hk3 hk4 hk5 hk6 ⊢
  have HP := Lib.hid hP; have HN := Lib.hid hnone; clear hP hnone
  have HK := Lib.hid ((Keep.refl [g] w).alloc (Obj.cells #[.int .i64 c, .int .i64 ch, .bool true, .bool k, .int .i64 s, .string d] 31))
  have HF := Lib.hid (hB.alloc (Obj.cells #[.int .i64 c, .int .i64 ch, .bool true, .bool k, .int .i64 s, .string d] 31))
  have HX := Lib.hid (Blk.new w [.int .i64 c, .int .i64 ch, .bool true, .bool k, .int .i64 s, .string d] 31)
  clear hB
  go_enter Try.func53, Try.ntmps53
  go_wp2_with fail
  refine (HN.out _ HF.out).mono ?_
  rintro e w1 ⟨rfl, rfl⟩
  go_wp2_with fail
  refine (HP.out _).mono ?_
  rintro e w1 ⟨rfl, hL1⟩
  have HK1 := Lib.hid (HK.out.below hL1 (by simp))
  have HF1 := Lib.hid (HF.out.below hL1 (by simp; omega))
  have HX1 := Lib.hid (HX.out.below hL1 (by simp))
  have hs1 : w.heap.size + 1 ≤ w1.heap.size := by have := hL1.size; simp at this; omega
  clear hL1
  have c0 := HF1.out.cell 0
  have c1 := HF1.out.cell 1
  have c2 := HF1.out.cell 2
  have c3 := HF1.out.cell 3
  have c4 := HF1.out.cell 4
  have c5 := HF1.out.cell 5
  have c6 := HF1.out.cell 6
  have c7 := HF1.out.cell 7
  simp only [Fm.cells, List.getElem?_cons_zero, List.getElem?_cons_succ] at c0 c1 c2 c3 c4 c5 c6 c7
  have x0 := HX1.out.cell 0
  have x1 := HX1.out.cell 1
  have x2 := HX1.out.cell 2
  have x3 := HX1.out.cell 3
  have x4 := HX1.out.cell 4
  have x5 := HX1.out.cell 5
  simp only [List.getElem?_cons_zero, List.getElem?_cons_succ] at x0 x1 x2 x3 x4 x5
  go_wp2_with fail
  go_quiet (fail)
  refine gen_post (fun w' => Keep [g] w w' ∧ Blk w' g (Fm.mk c hf ⟨ch, lo, wa, re, by_, nx⟩).cells 112 ∧ Blk w' w.heap.size [.int .i64 c, .int .i64 ch, .bool true, .bool k, .int .i64 s, .string d] 31 ∧ w.heap.size + 1 ≤ w'.heap.size) ⟨HK1.out.drewN _, HF1.out.drewN _, HX1.out.drewN _, hs1⟩ ?_
  clear HK1 HF1 HX1 hs1 c0 c1 c2 c3 c4 c5 c6 c7 x0 x1 x2 x3 x4 x5
  rintro w2 ⟨hK2, hF2, hX2, hs2'⟩
  have HK2 := Lib.hid hK2; have HF2 := Lib.hid hF2; have HX2 := Lib.hid hX2; clear hK2 hF2 hX2
  have c0 := HF2.out.cell 0
  have c1 := HF2.out.cell 1
  have c2 := HF2.out.cell 2
  have c3 := HF2.out.cell 3
  have c4 := HF2.out.cell 4
  have c5 := HF2.out.cell 5
  have c6 := HF2.out.cell 6
  have c7 := HF2.out.cell 7
  simp only [Fm.cells, List.getElem?_cons_zero, List.getElem?_cons_succ] at c0 c1 c2 c3 c4 c5 c6 c7
  have x0 := HX2.out.cell 0
  have x1 := HX2.out.cell 1
  have x2 := HX2.out.cell 2
  have x3 := HX2.out.cell 3
  have x4 := HX2.out.cell 4
  have x5 := HX2.out.cell 5
  simp only [List.getElem?_cons_zero, List.getElem?_cons_succ] at x0 x1 x2 x3 x4 x5
  go_wp2_with fail
  refine (HY.out _ HF2.out).mono ?_
  rintro e w3 ⟨rfl, hK3, hF3⟩
  have HK3 := Lib.hid (HK2.out.trans hK3)
  have HF3 := Lib.hid hF3
  clear hK3 hF3
  go_wp2_with fail
  go_ret2
  exact ⟨rfl, HK3.out, HF3.out⟩
end
end Go.Proofs.Ytbncejmohhejlaa
