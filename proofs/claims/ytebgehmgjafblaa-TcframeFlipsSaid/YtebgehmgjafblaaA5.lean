/- What is proved here: the table of the assembler's steps. -/
import Derived.Test.YtebgehmgjafblaaT2
import Derived.Test.YtebgehmgjafblaaRet
set_option linter.unusedVariables false
set_option linter.unusedSimpArgs false
namespace Go.Proofs.Ytebgehmgjafblaa
open Go.RowKit
theorem store_fn {w : World} {g : Nat} {cs : List Value} {t : TypeId} (hB : Blk w g cs t) (i : Nat) (f : Fn) {v : Value} (h : cs[i]? = some v) : (store ⟨g, i, none⟩ (.func f #[] #[])).run Try.prog w = .ok () (w.setCell ⟨g, i, none⟩ (.func f #[] #[])) := by
  have c0 := hB.cell i
  have f0 := hB.free i
  rw [h] at c0
  rw [run_store _ _ _ _ _ rfl]
  simp [c0, f0]
set_option maxHeartbeats 4000000 in
set_option maxRecDepth 100000 in
theorem steps_any (w : World) : Calls Try.prog 54 #[] w fun e w' => e = .returned (.agg #[.func (.func 80) #[] #[], .func (.func 81) #[] #[], .func (.func 82) #[] #[], .func (.func 83) #[] #[]]) ∧ w' = w.alloc (Obj.cells #[.func (.func 80) #[] #[], .func (.func 81) #[] #[], .func (.func 82) #[] #[], .func (.func 83) #[] #[]] 107) := by
  have HB := Lib.hid (Blk.new w [.nilFunc, .nilFunc, .nilFunc, .nilFunc] 107)
  go_enter Try.func54, Try.ntmps54
  go_wp2_with fail
  rw [store_fn HB.out 0 _ rfl]
  simp only [Result.andThen]
  rw [store_fn (HB.out.set 0 _) 1 _ rfl]
  simp only [Result.andThen]
  rw [store_fn ((HB.out.set 0 _).set 1 _) 2 _ rfl]
  simp only [Result.andThen]
  rw [store_fn (((HB.out.set 0 _).set 1 _).set 2 _) 3 _ rfl]
  simp only [Result.andThen]
  go_wp2_with fail
  refine ret_cell rfl w.heap.size 107 [.func (.func 80) #[] #[], .func (.func 81) #[] #[], .func (.func 82) #[] #[], .func (.func 83) #[] #[]] rfl (Blk.new w _ _) Try.underlying107 rfl (by kernel_rfl) rfl ?_
  exact ⟨rfl, rfl⟩
end Go.Proofs.Ytebgehmgjafblaa
