/- What is proved here: the walk of the law about runs. -/
import Derived.Test.YtebgehmgjafblaaL14r
set_option linter.unusedVariables false
set_option linter.unusedSimpArgs false
namespace Go.Proofs.Ytebgehmgjafblaa
open Go.RowKit
set_option maxHeartbeats 8000000 in
set_option maxRecDepth 100000 in
theorem FarmRuns_long (x y z : Int) (a : Option Addr) (n cap : Nat) (w : World) (hn : n ≤ 9223372036854775807) (hn5 : 500 < n) :
    Calls Try.prog 9 #[.agg #[.int .i64 x, .int .i64 y, .int .i64 z], .slice a n cap] w fun e w' => e = .returned (.bool true) ∧ Below w.heap.size w w' := by
  have HSH := Lib.hid (fun w => shown14_any w)
  have HL := Lib.hid ((Below.refl w.heap.size w).alloc (Nat.le_refl _) (Obj.cells #[.int .i64 x, .int .i64 y, .int .i64 z] 70))
  go_enter Try.func9, Try.ntmps9
  go_wp2_with fail
  refine (HSH.out _).mono ?_
  rintro e w1 ⟨rfl, hL⟩
  replace HL := Lib.hid (HL.out.trans (hL.mono HL.out.size))
  clear hL
  go_wp2_with fail
  go_ret
  exact ⟨rfl, HL.out⟩
set_option maxHeartbeats 8000000 in
set_option maxRecDepth 100000 in
theorem FarmRuns_bad (x y z : Int) (a : Option Addr) (n cap : Nat) (w : World) (hn : n ≤ 9223372036854775807) (hn5 : ¬ 500 < n) (hG : ¬ newG x y z) :
    Calls Try.prog 9 #[.agg #[.int .i64 x, .int .i64 y, .int .i64 z], .slice a n cap] w fun e w' => e = .returned (.bool true) ∧ Below w.heap.size w w' := by
  have HSH := Lib.hid (fun w => shown14_any w)
  have HN := Lib.hid (fun w => New_bad x y z w hG)
  have HR := Lib.hid (fun w => rNew_bad x y z w hG)
  clear hG
  have HL := Lib.hid ((Below.refl w.heap.size w).alloc (Nat.le_refl _) (Obj.cells #[.int .i64 x, .int .i64 y, .int .i64 z] 70))
  have HA := Lib.hid (Blk.new w [.int .i64 x, .int .i64 y, .int .i64 z] 70)
  go_enter Try.func9, Try.ntmps9
  go_wp2_with fail
  refine (HSH.out _).mono ?_
  rintro e w1 ⟨rfl, hL⟩
  replace HL := Lib.hid (HL.out.trans (hL.mono HL.out.size))
  replace HA := Lib.hid (HA.out.below hL HA.out.lt)
  clear hL
  have a0 := HA.out.cell 0
  have a1 := HA.out.cell 1
  have a2 := HA.out.cell 2
  simp only [List.getElem?_cons_zero, List.getElem?_cons_succ] at a0 a1 a2
  go_wp2_with fail
  refine (HN.out _).mono ?_
  rintro e _ ⟨rfl, rfl⟩
  go_wp2_with fail
  refine (HR.out _).mono ?_
  rintro e _ ⟨rfl, rfl⟩
  go_wp2_with fail
  go_loopw [9] (fun i wr => i = .int .i64 0 ∧ Below w.heap.size w wr) (fun _ _ => 0)
  case atStart => exact ⟨rfl, HL.out⟩
  case round =>
    obtain ⟨rfl, hL⟩ := hrel
    have HL2 := Lib.hid hL; clear hL
    by_cases h0 : 0 < n
    all_goals
      go_wp2_with fail
      go_ret
      exact ⟨rfl, HL2.out⟩
theorem FarmRuns_any (x y z : Int) (a : Option Addr) (n cap : Nat) (S : Nat → Stp) (w : World) (hn : n ≤ 9223372036854775807) (hS : StepsAt w a n S) :
    Calls Try.prog 9 #[.agg #[.int .i64 x, .int .i64 y, .int .i64 z], .slice a n cap] w fun e w' => e = .returned (.bool true) ∧ Below w.heap.size w w' := by
  by_cases h5 : 500 < n
  · exact FarmRuns_long x y z a n cap w hn h5
  · by_cases hG : newG x y z
    · exact FarmRuns_ok x y z a n cap S w hn h5 hS hG
    · exact FarmRuns_bad x y z a n cap w hn h5 hG
end Go.Proofs.Ytebgehmgjafblaa
