/- What is proved here: the walk of Feed. -/
import Derived.Test.YtebgehmgjafblaaA3
import Derived.Test.YtebgehmgjafblaaA5
import Derived.Deep.RegionHeld3
import Derived.Deep.RegionWith
set_option linter.unusedVariables false
set_option linter.unusedSimpArgs false
namespace Go.Proofs.Ytebgehmgjafblaa
open Go.RowKit
section
variable (w : World)
set_option maxRecDepth 100000
theorem run_tab0 : (Instr.index 107 (.agg #[.func (.func 80) #[] #[], .func (.func 81) #[] #[], .func (.func 82) #[] #[], .func (.func 83) #[] #[]]) (.int .u8 0)).run Try.prog w = .ok (.func (.func 80) #[] #[]) w := by simp [Instr.index, run_underlying Try.underlying107, asIntOf, go_sem]
theorem run_tab1 : (Instr.index 107 (.agg #[.func (.func 80) #[] #[], .func (.func 81) #[] #[], .func (.func 82) #[] #[], .func (.func 83) #[] #[]]) (.int .u8 1)).run Try.prog w = .ok (.func (.func 81) #[] #[]) w := by simp [Instr.index, run_underlying Try.underlying107, asIntOf, go_sem]
theorem run_tab2 : (Instr.index 107 (.agg #[.func (.func 80) #[] #[], .func (.func 81) #[] #[], .func (.func 82) #[] #[], .func (.func 83) #[] #[]]) (.int .u8 2)).run Try.prog w = .ok (.func (.func 82) #[] #[]) w := by simp [Instr.index, run_underlying Try.underlying107, asIntOf, go_sem]
theorem run_tab3 : (Instr.index 107 (.agg #[.func (.func 80) #[] #[], .func (.func 81) #[] #[], .func (.func 82) #[] #[], .func (.func 83) #[] #[]]) (.int .u8 3)).run Try.prog w = .ok (.func (.func 83) #[] #[]) w := by simp [Instr.index, run_underlying Try.underlying107, asIntOf, go_sem]
end
theorem AsmAt.drew {w : World} {base a : Nat} {op : Bool} {xs : List UInt8} (h : AsmAt w base a op xs) : AsmAt w.drew base a op xs := h
theorem AsmAt.alloc {w : World} {base a : Nat} {op : Bool} {xs : List UInt8} (h : AsmAt w base a op xs) (o : Obj) : AsmAt (w.alloc o) base a op xs := asm_below h ((Below.refl w.heap.size w).alloc (Nat.le_refl _) o) (Nat.le_refl _)
theorem AsmAt.set_far {w : World} {base a g : Nat} {op : Bool} {xs : List UInt8} {cs : List Value} {t : TypeId} (h : AsmAt w base a op xs) (hB : Blk w g cs t) (ht : ¬ t = 5) (hne : a ≠ g) (i : Nat) (x : Value) : AsmAt (w.setCell ⟨g, i, none⟩ x) base a op xs := by
  obtain ⟨h1, v, h2, h3⟩ := h
  refine ⟨h1, v, h2.set_far hne _, row_keep h3 ((Keep.refl [g] w).setCell (.inl (by simp)) _) ?_⟩
  intro k hk
  have := row_ne2 h3 hB ht k hk
  simpa using this
theorem Apart.set_new {a b : Nat} {w w' : World} (h : Apart a w w') (hb : w.heap.size ≤ b) (i : Nat) (x : Value) : Apart a w (w'.setCell ⟨b, i, none⟩ x) := fun g cs t h1 h2 h3 => (h g cs t h1 h2 h3).set_far (Nat.ne_of_lt (Nat.lt_of_lt_of_le h3.lt hb)) _
theorem Apart.alloc {a : Nat} {w w' : World} (h : Apart a w w') (o : Obj) : Apart a w (w'.alloc o) := fun g cs t h1 h2 h3 => (h g cs t h1 h2 h3).alloc _
theorem Apart.drew {a : Nat} {w w' : World} (h : Apart a w w') : Apart a w w'.drew := fun g cs t h1 h2 h3 => (h g cs t h1 h2 h3)
end Go.Proofs.Ytebgehmgjafblaa
