/- What is proved here: State, with the world that it leaves. -/
import Derived.Test.YtebgehmgjafblaaF7
set_option linter.unusedVariables false
set_option linter.unusedSimpArgs false
namespace Go.Proofs.Ytebgehmgjafblaa
open Go.RowKit
set_option maxHeartbeats 1000000 in
set_option maxRecDepth 100000 in
theorem State_exact (f : Fm) (g : Nat) (w : World) (hh : f.half ≠ 0) (hB : Blk w g f.cells 82) : Calls Try.prog 18 #[.pointer (some ⟨g, 0, none⟩)] w fun e w' => e = .returned f.st.val ∧ w' = w.alloc (.cells #[.int .i64 f.st.chan, .bool f.st.lockout, .bool f.st.wait, .bool f.st.retx, .int .i64 f.st.bypd, .int .i64 f.st.next] 34) := by
  obtain ⟨cr, h, ⟨ch, lo, wa, re, by_, nx⟩⟩ := f
  have HB := Lib.hid (hB.alloc (Obj.cells #[.int .i64 0, .bool false, .bool false, .bool false, .int .i64 0, .int .i64 0] 34)); clear hB
  have c0 := HB.out.cell 0
  have c1 := HB.out.cell 1
  have c2 := HB.out.cell 2
  have c3 := HB.out.cell 3
  have c4 := HB.out.cell 4
  have c5 := HB.out.cell 5
  have c6 := HB.out.cell 6
  have c7 := HB.out.cell 7
  simp only [Fm.cells, List.getElem?_cons_zero, List.getElem?_cons_succ] at c0 c1 c2 c3 c4 c5 c6 c7
  have hn := Lib.hid (none_any ⟨cr, h, ⟨ch, lo, wa, re, by_, nx⟩⟩ g _ false (by simpa using hh) HB.out)
  go_enter Try.func18, Try.ntmps18
  go_wp2_with fail
  refine hn.out.mono ?_
  rintro e w1 ⟨rfl, rfl⟩
  go_wp2_with fail
  refine ret_cell rfl w.heap.size 34 (Wd.mk ch lo wa re by_ nx).cells rfl (Blk.new w _ _) Try.underlying34 rfl (by kernel_rfl) rfl ?_
  exact ⟨rfl, rfl⟩
end Go.Proofs.Ytebgehmgjafblaa
