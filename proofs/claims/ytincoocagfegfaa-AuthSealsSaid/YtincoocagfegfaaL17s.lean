/- What is proved here: the walk of the law about Seal. -/
import Derived.Test.YtincoocagfegfaaU14
import Derived.Test.YtincoocagfegfaaU12
set_option linter.unusedVariables false
set_option linter.unusedSimpArgs false
namespace Go.Proofs.Ytincoocagfegfaa
open Go.RowKit
set_option maxHeartbeats 4000000 in
set_option maxRecDepth 100000 in
theorem AuthSeals_any (key : ByteArray) (c : Cm) (w : World) (hk : key.size ≤ 9223372036854775807) (hc : c.args.size ≤ 9223372036854775807) : Calls Try.prog 3 #[.string key, c.val] w fun e w' => e = .returned (.bool true) ∧ Below w.heap.size w w' := by
  have HSH := Lib.hid (shown17_any)
  obtain ⟨r, er, h1, h2⟩ : ∃ (r : ByteArray) (er : Int), (∀ W, Calls Try.prog 9 #[.string key, c.val] W fun e w' => e = .returned (.tuple #[.string r, .int .i64 er]) ∧ Below W.heap.size W w') ∧ (∀ W, Calls Try.prog 10 #[.string key, c.val] W fun e w' => e = .returned (.tuple #[.string r, .int .i64 er]) ∧ Below W.heap.size W w') := by
    by_cases h : key.size = 16 ∧ c.ok
    · exact ⟨⟨(sealL key.data.toList c).toArray⟩, 0, fun W => aSeal_ok key c W h.1 h.2, fun W => qSeal_ok key c W h.1 h.2⟩
    · exact ⟨⟨#[]⟩, 2, fun W => aSeal_bad key c W h, fun W => qSeal_bad key c W h⟩
  obtain ⟨ch, n, op, args⟩ := c
  simp only [Cm.val] at h1 h2 hc ⊢
  have HL := Lib.hid ((Below.refl w.heap.size w).alloc (Nat.le_refl _) (Obj.cells #[.int .i64 ch, .int .u64 (w64 n), .int .i64 op, .string args] 24))
  have HX := Lib.hid (Blk.new w [.int .i64 ch, .int .u64 (w64 n), .int .i64 op, .string args] 24)
  have H2 := Lib.hid h2
  by_cases hz : (2000 : Int) < wrap64 ((key.size : Int) + (args.size : Int))
  · clear h1 h2
    go_enter Try.func3, Try.ntmps3
    go_wp2_with fail
    refine (HSH.out _).mono ?_
    rintro e w1 ⟨rfl, hL⟩
    replace HL := Lib.hid (HL.out.trans (hL.mono HL.out.size))
    replace HX := Lib.hid (HX.out.below hL HX.out.lt)
    clear hL
    have x0 := HX.out.cell 0
    have x1 := HX.out.cell 1
    have x2 := HX.out.cell 2
    have x3 := HX.out.cell 3
    simp only [List.getElem?_cons_zero, List.getElem?_cons_succ] at x0 x1 x2 x3
    go_wp2_with fail
    go_ret
    exact ⟨rfl, HL.out⟩
  · have H1 := Lib.hid h1
    clear h1 h2
    go_enter Try.func3, Try.ntmps3
    go_wp2_with fail
    refine (HSH.out _).mono ?_
    rintro e w1 ⟨rfl, hL⟩
    replace HL := Lib.hid (HL.out.trans (hL.mono HL.out.size))
    replace HX := Lib.hid (HX.out.below hL HX.out.lt)
    clear hL
    have x0 := HX.out.cell 0
    have x1 := HX.out.cell 1
    have x2 := HX.out.cell 2
    have x3 := HX.out.cell 3
    simp only [List.getElem?_cons_zero, List.getElem?_cons_succ] at x0 x1 x2 x3
    go_wp2_with fail
    refine (H1.out _).mono ?_
    rintro e w2 ⟨rfl, hL⟩
    clear x0 x1 x2 x3
    replace HL := Lib.hid (HL.out.trans (hL.mono HL.out.size))
    replace HX := Lib.hid (HX.out.below hL HX.out.lt)
    clear hL
    have x0 := HX.out.cell 0
    have x1 := HX.out.cell 1
    have x2 := HX.out.cell 2
    have x3 := HX.out.cell 3
    simp only [List.getElem?_cons_zero, List.getElem?_cons_succ] at x0 x1 x2 x3
    go_wp2_with fail
    refine (H2.out _).mono ?_
    rintro e w3 ⟨rfl, hL⟩
    clear x0 x1 x2 x3
    replace HL := Lib.hid (HL.out.trans (hL.mono HL.out.size))
    replace HX := Lib.hid (HX.out.below hL HX.out.lt)
    clear hL
    have x0 := HX.out.cell 0
    have x1 := HX.out.cell 1
    have x2 := HX.out.cell 2
    have x3 := HX.out.cell 3
    simp only [List.getElem?_cons_zero, List.getElem?_cons_succ] at x0 x1 x2 x3
    go_wp2_with fail
    go_ret
    exact ⟨by simp, HL.out⟩
end Go.Proofs.Ytincoocagfegfaa
