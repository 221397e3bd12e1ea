/- What is proved here: the walk of the law about automata that do nothing. -/
import Derived.Test.YtebgehmgjafblaaS14
import Derived.Test.YtebgehmgjafblaaF11
set_option linter.unusedVariables false
set_option linter.unusedSimpArgs false
namespace Go.Proofs.Ytebgehmgjafblaa
open Go.RowKit
set_option maxHeartbeats 8000000 in
set_option maxRecDepth 100000 in
theorem FarmNone_any (x : Tc) (room : Bool) (w : World) : Calls Try.prog 10 #[x.val, .bool room] w fun e w' => e = .returned (.bool true) ∧ Below w.heap.size w w' := by
  have HSH := Lib.hid (fun w => shown14_any w)
  have HT := Lib.hid (fun v w h => Take_idle v x room w h)
  obtain ⟨c, ch, b, k, s, d⟩ := x
  simp only [Tc.val] at HT ⊢
  have HL0 := Lib.hid ((Below.refl w.heap.size w).alloc (Nat.le_refl _) (Obj.cells #[.int .i64 c, .int .i64 ch, .bool b, .bool k, .int .i64 s, .string d] 30))
  have HX0 := Lib.hid (Blk.new w [.int .i64 c, .int .i64 ch, .bool b, .bool k, .int .i64 s, .string d] 30)
  go_enter Try.func10, Try.ntmps10
  go_wp2_with fail
  refine (HSH.out _).mono ?_
  rintro e v1 ⟨rfl, hL1⟩
  have HL1 := Lib.hid (HL0.out.trans (hL1.mono HL0.out.size))
  have HX1 := Lib.hid (HX0.out.below hL1 HX0.out.lt); clear hL1 HL0 HX0
  obtain ⟨g, hg⟩ : ∃ g, g = v1.heap.size := ⟨_, rfl⟩
  have HL2 := Lib.hid (HL1.out.alloc HL1.out.size (Obj.cells #[.int .i64 0, .int .i64 0, .int .i64 0, .bool false, .bool false, .bool false, .int .i64 0, .int .i64 0] 82))
  have HX2 := Lib.hid (HX1.out.alloc (Obj.cells #[.int .i64 0, .int .i64 0, .int .i64 0, .bool false, .bool false, .bool false, .int .i64 0, .int .i64 0] 82))
  have HG2 := Lib.hid (show Blk (v1.alloc (Obj.cells #[.int .i64 0, .int .i64 0, .int .i64 0, .bool false, .bool false, .bool false, .int .i64 0, .int .i64 0] 82)) g Fm.zero.cells 82 by rw [hg]; exact Blk.new v1 Fm.zero.cells _)
  have x0 := HX2.out.cell 0
  have x1 := HX2.out.cell 1
  have x2 := HX2.out.cell 2
  have x3 := HX2.out.cell 3
  have x4 := HX2.out.cell 4
  have x5 := HX2.out.cell 5
  simp only [List.getElem?_cons_zero, List.getElem?_cons_succ] at x0 x1 x2 x3 x4 x5
  go_wp2_with fail
  rw [← hg]
  refine (HT.out _ _ (.inl rfl)).mono ?_
  rintro e v3 ⟨rfl, hL3⟩
  have HL3 := Lib.hid (HL2.out.trans (hL3.mono HL2.out.size))
  have HX3 := Lib.hid (HX2.out.below hL3 HX2.out.lt)
  have HG3 := Lib.hid (HG2.out.below hL3 HG2.out.lt); clear hL3 HL2 HX2 HG2 x0 x1 x2 x3 x4 x5 hg
  have x0 := HX3.out.cell 0
  have x1 := HX3.out.cell 1
  have x2 := HX3.out.cell 2
  have x3 := HX3.out.cell 3
  have x4 := HX3.out.cell 4
  have x5 := HX3.out.cell 5
  simp only [List.getElem?_cons_zero, List.getElem?_cons_succ] at x0 x1 x2 x3 x4 x5
  go_wp2_with fail
  refine (HT.out _ _ (.inr ⟨g, rfl, HG3.out⟩)).mono ?_
  rintro e v4 ⟨rfl, hL4⟩
  have HL4 := Lib.hid (HL3.out.trans (hL4.mono HL3.out.size))
  have HX4 := Lib.hid (HX3.out.below hL4 HX3.out.lt)
  have HG4 := Lib.hid (HG3.out.below hL4 HG3.out.lt); clear hL4 HL3 HX3 HG3 x0 x1 x2 x3 x4 x5
  go_wp2_with fail
  refine (Free_idle _ _ (.inl rfl)).mono ?_
  rintro e v5 ⟨rfl, rfl⟩
  go_wp2_with fail
  refine (Free_idle _ _ (.inr ⟨g, rfl, HG4.out⟩)).mono ?_
  rintro e v5 ⟨rfl, rfl⟩
  go_wp2_with fail
  refine (State_idle _ _ (.inl rfl)).mono ?_
  rintro e v5 ⟨rfl, hL5⟩
  have HL5 := Lib.hid (HL4.out.trans (hL5.mono HL4.out.size))
  have HX5 := Lib.hid (HX4.out.below hL5 HX4.out.lt)
  have HG5 := Lib.hid (HG4.out.below hL5 HG4.out.lt); clear hL5 HL4 HX4 HG4
  simp only [Wd.val, Wd.zero]
  go_wp2_with fail
  refine (State_idle _ _ (.inr ⟨g, rfl, HG5.out⟩)).mono ?_
  rintro e v6 ⟨rfl, hL6⟩
  have HL6 := Lib.hid (HL5.out.trans (hL6.mono HL5.out.size))
  have HX6 := Lib.hid (HX5.out.below hL6 HX5.out.lt)
  have HG6 := Lib.hid (HG5.out.below hL6 HG5.out.lt); clear hL6 HL5 HX5 HG5
  simp only [Wd.val, Wd.zero]
  go_wp2_with fail
  refine (Word_idle _ _ (.inl rfl)).mono ?_
  rintro e v7 ⟨rfl, rfl⟩
  go_wp2_with fail
  refine (Word_idle _ _ (.inr ⟨g, rfl, HG6.out⟩)).mono ?_
  rintro e v7 ⟨rfl, rfl⟩
  go_wp2_with fail
  go_ret
  exact ⟨rfl, HL6.out⟩
end Go.Proofs.Ytebgehmgjafblaa
