/- What is proved here: walks of the automaton's table of actions. -/
import Derived.Test.YtbncejmohhejlaaF1
set_option linter.unusedVariables false
set_option linter.unusedSimpArgs false
namespace Go.Proofs.Ytbncejmohhejlaa
open Go.RowKit
def whenB (f : Fm) (a : Int) (room : Bool) : Nat → Bool
  | 0 => f.st.lockout
  | 1 => a == 0 && room
  | 2 => a == 0
  | 3 => decide (a < f.half)
  | 4 => decide (256 - f.half ≤ a)
  | _ => true
def doF (f : Fm) : Nat → Fm
  | 1 => ⟨f.craft, f.half, ⟨f.st.chan, f.st.lockout, f.st.wait, false, f.st.bypd, (f.st.next + 1) % 256⟩⟩
  | 2 => ⟨f.craft, f.half, ⟨f.st.chan, f.st.lockout, true, true, f.st.bypd, f.st.next⟩⟩
  | 3 => ⟨f.craft, f.half, ⟨f.st.chan, f.st.lockout, f.st.wait, true, f.st.bypd, f.st.next⟩⟩
  | 5 => ⟨f.craft, f.half, ⟨f.st.chan, true, f.st.wait, f.st.retx, f.st.bypd, f.st.next⟩⟩
  | _ => f
section
variable (f : Fm) (g : Nat) (w : World) (a : Int) (room : Bool)
set_option maxHeartbeats 1000000 in
set_option maxRecDepth 100000 in
theorem when0 (hB : Blk w g f.cells 112) : Calls Try.prog 65 #[.pointer (some ⟨g, 0, none⟩), .agg #[.int .i64 a, .bool room]] w fun e w' => e = .returned (.bool (whenB f a room 0)) ∧ Below w.heap.size w w' := by
  have HB := Lib.hid (hB.alloc (Obj.cells #[.int .i64 a, .bool room] 123)); clear hB
  have c0 := HB.out.cell 0
  have c1 := HB.out.cell 1
  have c2 := HB.out.cell 2
  have c3 := HB.out.cell 3
  have c4 := HB.out.cell 4
  have c5 := HB.out.cell 5
  have c6 := HB.out.cell 6
  have c7 := HB.out.cell 7
  simp only [Fm.cells, List.getElem?_cons_zero, List.getElem?_cons_succ] at c0 c1 c2 c3 c4 c5 c6 c7
  go_enter Try.func65, Try.ntmps65
  go_wp2_with fail
  go_ret
  exact ⟨rfl, (Below.refl _ _).alloc (Nat.le_refl _) _⟩
set_option maxHeartbeats 1000000 in
set_option maxRecDepth 100000 in
theorem when1 : Calls Try.prog 67 #[.pointer (some ⟨g, 0, none⟩), .agg #[.int .i64 a, .bool room]] w fun e w' => e = .returned (.bool (whenB f a room 1)) ∧ Below w.heap.size w w' := by
  go_enter Try.func67, Try.ntmps67
  go_wp2_with fail
  all_goals
    go_ret
    refine ⟨?_, (Below.refl _ _).alloc (Nat.le_refl _) _⟩
    simp_all [whenB]
set_option maxHeartbeats 1000000 in
set_option maxRecDepth 100000 in
theorem when2 : Calls Try.prog 69 #[.pointer (some ⟨g, 0, none⟩), .agg #[.int .i64 a, .bool room]] w fun e w' => e = .returned (.bool (whenB f a room 2)) ∧ Below w.heap.size w w' := by
  go_enter Try.func69, Try.ntmps69
  go_wp2_with fail
  go_ret
  exact ⟨rfl, (Below.refl _ _).alloc (Nat.le_refl _) _⟩
set_option maxHeartbeats 1000000 in
set_option maxRecDepth 100000 in
theorem when3 (hB : Blk w g f.cells 112) : Calls Try.prog 71 #[.pointer (some ⟨g, 0, none⟩), .agg #[.int .i64 a, .bool room]] w fun e w' => e = .returned (.bool (whenB f a room 3)) ∧ Below w.heap.size w w' := by
  have HB := Lib.hid (hB.alloc (Obj.cells #[.int .i64 a, .bool room] 123)); clear hB
  have c0 := HB.out.cell 0
  have c1 := HB.out.cell 1
  have c2 := HB.out.cell 2
  have c3 := HB.out.cell 3
  have c4 := HB.out.cell 4
  have c5 := HB.out.cell 5
  have c6 := HB.out.cell 6
  have c7 := HB.out.cell 7
  simp only [Fm.cells, List.getElem?_cons_zero, List.getElem?_cons_succ] at c0 c1 c2 c3 c4 c5 c6 c7
  go_enter Try.func71, Try.ntmps71
  go_wp2_with fail
  go_quiet (fail)
  go_wp2_with fail
  go_ret
  exact ⟨rfl, ((Below.refl _ _).alloc (Nat.le_refl _) _).trans ((below_quiet _ _).1.mono (by simp))⟩
set_option maxHeartbeats 1000000 in
set_option maxRecDepth 100000 in
theorem when4 (hB : Blk w g f.cells 112) (h0 : 0 ≤ f.half) (h1 : f.half ≤ 255) : Calls Try.prog 73 #[.pointer (some ⟨g, 0, none⟩), .agg #[.int .i64 a, .bool room]] w fun e w' => e = .returned (.bool (whenB f a room 4)) ∧ Below w.heap.size w w' := by
  have HB := Lib.hid (hB.alloc (Obj.cells #[.int .i64 a, .bool room] 123)); clear hB
  have c0 := HB.out.cell 0
  have c1 := HB.out.cell 1
  have c2 := HB.out.cell 2
  have c3 := HB.out.cell 3
  have c4 := HB.out.cell 4
  have c5 := HB.out.cell 5
  have c6 := HB.out.cell 6
  have c7 := HB.out.cell 7
  simp only [Fm.cells, List.getElem?_cons_zero, List.getElem?_cons_succ] at c0 c1 c2 c3 c4 c5 c6 c7
  have hw : IntKind.i64.wrap (256 - f.half) = 256 - f.half := IntWalk.i64_in _ (by omega)
  go_enter Try.func73, Try.ntmps73
  go_wp2_with fail
  go_quiet (fail)
  go_wp2_with fail
  go_ret
  exact ⟨rfl, ((Below.refl _ _).alloc (Nat.le_refl _) _).trans ((below_quiet _ _).1.mono (by simp))⟩
set_option maxHeartbeats 1000000 in
set_option maxRecDepth 100000 in
theorem when5 : Calls Try.prog 75 #[.pointer (some ⟨g, 0, none⟩), .agg #[.int .i64 a, .bool room]] w fun e w' => e = .returned (.bool (whenB f a room 5)) ∧ Below w.heap.size w w' := by
  go_enter Try.func75, Try.ntmps75
  go_wp2_with fail
  go_ret
  exact ⟨rfl, (Below.refl _ _).alloc (Nat.le_refl _) _⟩
set_option maxHeartbeats 1000000 in
set_option maxRecDepth 100000 in
theorem do0 (hB : Blk w g f.cells 112) : Calls Try.prog 66 #[.pointer (some ⟨g, 2, none⟩)] w fun e w' => e = .returned (.tuple #[]) ∧ Keep [g] w w' ∧ Blk w' g (doF f 0).cells 112 := by
  have HB := Lib.hid hB; clear hB
  have c0 := HB.out.cell 0
  have c1 := HB.out.cell 1
  have c2 := HB.out.cell 2
  have c3 := HB.out.cell 3
  have c4 := HB.out.cell 4
  have c5 := HB.out.cell 5
  have c6 := HB.out.cell 6
  have c7 := HB.out.cell 7
  simp only [Fm.cells, List.getElem?_cons_zero, List.getElem?_cons_succ] at c0 c1 c2 c3 c4 c5 c6 c7
  have f0 := HB.out.free 0
  have f1 := HB.out.free 1
  have f2 := HB.out.free 2
  have f3 := HB.out.free 3
  have f4 := HB.out.free 4
  have f5 := HB.out.free 5
  have f6 := HB.out.free 6
  have f7 := HB.out.free 7
  go_enter Try.func66, Try.ntmps66
  go_wp2_with fail
  go_end0
  exact ⟨rfl, Keep.refl _ _, HB.out⟩
set_option maxHeartbeats 1000000 in
set_option maxRecDepth 100000 in
theorem do1 (hB : Blk w g f.cells 112) (h0 : 0 ≤ f.st.next) (h1 : f.st.next ≤ 255) : Calls Try.prog 68 #[.pointer (some ⟨g, 2, none⟩)] w fun e w' => e = .returned (.tuple #[]) ∧ Keep [g] w w' ∧ Blk w' g (doF f 1).cells 112 := by
  have HB := Lib.hid hB; clear hB
  have c0 := HB.out.cell 0
  have c1 := HB.out.cell 1
  have c2 := HB.out.cell 2
  have c3 := HB.out.cell 3
  have c4 := HB.out.cell 4
  have c5 := HB.out.cell 5
  have c6 := HB.out.cell 6
  have c7 := HB.out.cell 7
  simp only [Fm.cells, List.getElem?_cons_zero, List.getElem?_cons_succ] at c0 c1 c2 c3 c4 c5 c6 c7
  have f0 := HB.out.free 0
  have f1 := HB.out.free 1
  have f2 := HB.out.free 2
  have f3 := HB.out.free 3
  have f4 := HB.out.free 4
  have f5 := HB.out.free 5
  have f6 := HB.out.free 6
  have f7 := HB.out.free 7
  go_enter Try.func68, Try.ntmps68
  go_wp2_with fail
  go_end0
  exact ⟨rfl, ((Keep.refl _ _).setCell (.inl (by simp)) _).setCell (.inl (by simp)) _, (HB.out.set 7 _).set 5 _⟩
set_option maxHeartbeats 1000000 in
set_option maxRecDepth 100000 in
theorem do2 (hB : Blk w g f.cells 112) : Calls Try.prog 70 #[.pointer (some ⟨g, 2, none⟩)] w fun e w' => e = .returned (.tuple #[]) ∧ Keep [g] w w' ∧ Blk w' g (doF f 2).cells 112 := by
  have HB := Lib.hid hB; clear hB
  have c0 := HB.out.cell 0
  have c1 := HB.out.cell 1
  have c2 := HB.out.cell 2
  have c3 := HB.out.cell 3
  have c4 := HB.out.cell 4
  have c5 := HB.out.cell 5
  have c6 := HB.out.cell 6
  have c7 := HB.out.cell 7
  simp only [Fm.cells, List.getElem?_cons_zero, List.getElem?_cons_succ] at c0 c1 c2 c3 c4 c5 c6 c7
  have f0 := HB.out.free 0
  have f1 := HB.out.free 1
  have f2 := HB.out.free 2
  have f3 := HB.out.free 3
  have f4 := HB.out.free 4
  have f5 := HB.out.free 5
  have f6 := HB.out.free 6
  have f7 := HB.out.free 7
  go_enter Try.func70, Try.ntmps70
  go_wp2_with fail
  go_end0
  exact ⟨rfl, ((Keep.refl _ _).setCell (.inl (by simp)) _).setCell (.inl (by simp)) _, (HB.out.set 4 _).set 5 _⟩
set_option maxHeartbeats 1000000 in
set_option maxRecDepth 100000 in
theorem do3 (hB : Blk w g f.cells 112) : Calls Try.prog 72 #[.pointer (some ⟨g, 2, none⟩)] w fun e w' => e = .returned (.tuple #[]) ∧ Keep [g] w w' ∧ Blk w' g (doF f 3).cells 112 := by
  have HB := Lib.hid hB; clear hB
  have c0 := HB.out.cell 0
  have c1 := HB.out.cell 1
  have c2 := HB.out.cell 2
  have c3 := HB.out.cell 3
  have c4 := HB.out.cell 4
  have c5 := HB.out.cell 5
  have c6 := HB.out.cell 6
  have c7 := HB.out.cell 7
  simp only [Fm.cells, List.getElem?_cons_zero, List.getElem?_cons_succ] at c0 c1 c2 c3 c4 c5 c6 c7
  have f0 := HB.out.free 0
  have f1 := HB.out.free 1
  have f2 := HB.out.free 2
  have f3 := HB.out.free 3
  have f4 := HB.out.free 4
  have f5 := HB.out.free 5
  have f6 := HB.out.free 6
  have f7 := HB.out.free 7
  go_enter Try.func72, Try.ntmps72
  go_wp2_with fail
  go_end0
  exact ⟨rfl, (Keep.refl _ _).setCell (.inl (by simp)) _, HB.out.set 5 _⟩
set_option maxHeartbeats 1000000 in
set_option maxRecDepth 100000 in
theorem do4 (hB : Blk w g f.cells 112) : Calls Try.prog 74 #[.pointer (some ⟨g, 2, none⟩)] w fun e w' => e = .returned (.tuple #[]) ∧ Keep [g] w w' ∧ Blk w' g (doF f 4).cells 112 := by
  have HB := Lib.hid hB; clear hB
  have c0 := HB.out.cell 0
  have c1 := HB.out.cell 1
  have c2 := HB.out.cell 2
  have c3 := HB.out.cell 3
  have c4 := HB.out.cell 4
  have c5 := HB.out.cell 5
  have c6 := HB.out.cell 6
  have c7 := HB.out.cell 7
  simp only [Fm.cells, List.getElem?_cons_zero, List.getElem?_cons_succ] at c0 c1 c2 c3 c4 c5 c6 c7
  have f0 := HB.out.free 0
  have f1 := HB.out.free 1
  have f2 := HB.out.free 2
  have f3 := HB.out.free 3
  have f4 := HB.out.free 4
  have f5 := HB.out.free 5
  have f6 := HB.out.free 6
  have f7 := HB.out.free 7
  go_enter Try.func74, Try.ntmps74
  go_wp2_with fail
  go_end0
  exact ⟨rfl, Keep.refl _ _, HB.out⟩
set_option maxHeartbeats 1000000 in
set_option maxRecDepth 100000 in
theorem do5 (hB : Blk w g f.cells 112) : Calls Try.prog 76 #[.pointer (some ⟨g, 2, none⟩)] w fun e w' => e = .returned (.tuple #[]) ∧ Keep [g] w w' ∧ Blk w' g (doF f 5).cells 112 := by
  have HB := Lib.hid hB; clear hB
  have c0 := HB.out.cell 0
  have c1 := HB.out.cell 1
  have c2 := HB.out.cell 2
  have c3 := HB.out.cell 3
  have c4 := HB.out.cell 4
  have c5 := HB.out.cell 5
  have c6 := HB.out.cell 6
  have c7 := HB.out.cell 7
  simp only [Fm.cells, List.getElem?_cons_zero, List.getElem?_cons_succ] at c0 c1 c2 c3 c4 c5 c6 c7
  have f0 := HB.out.free 0
  have f1 := HB.out.free 1
  have f2 := HB.out.free 2
  have f3 := HB.out.free 3
  have f4 := HB.out.free 4
  have f5 := HB.out.free 5
  have f6 := HB.out.free 6
  have f7 := HB.out.free 7
  go_enter Try.func76, Try.ntmps76
  go_wp2_with fail
  go_end0
  exact ⟨rfl, (Keep.refl _ _).setCell (.inl (by simp)) _, HB.out.set 3 _⟩
end
end Go.Proofs.Ytbncejmohhejlaa
