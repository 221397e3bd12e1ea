/- What is proved here: methods of the automaton on the ground: New, Begin, Send, Bypass, Tick. -/
import Derived.Test.YtbncejmohhejlaaFo6
set_option linter.unusedVariables false
set_option linter.unusedSimpArgs false
namespace Go.Proofs.Ytbncejmohhejlaa
open Go.RowKit
def newF (c ch win lim tm : Int) : Fs := ⟨c, ch, win, lim, tm, 0, 0, 0, 0, 0, 0, 0, false, false, false, false, false, [], [], [], []⟩
set_option maxHeartbeats 2000000 in
set_option maxRecDepth 100000 in
theorem foNew_ok (c ch win lim tm : Int) (w : World) (h1 : 0 ≤ c) (h2 : c ≤ 255) (h3 : 0 ≤ ch) (h4 : ch < 8) (h5 : 1 ≤ win) (h6 : win ≤ 127) (h7 : 1 ≤ lim) (h8 : lim ≤ 100) (h9 : 1 ≤ tm) (ha : tm ≤ 1073741824) :
    Calls Try.prog 10 #[.int .i64 c, .int .i64 ch, .int .i64 win, .int .i64 lim, .int .i64 tm] w fun e w' => e = .returned (.tuple #[.pointer (some ⟨w.heap.size, 0, none⟩), .int .i64 0]) ∧ Below w.heap.size w w' ∧ FopIn w' w.heap.size [w.heap.size] (newF c ch win lim tm) := by
  have HB := Lib.hid (Blk.new w ((newF c ch win lim tm).cells (.slice none 0 0) (.slice none 0 0) (.slice none 0 0) (.slice none 0 0)) 66)
  have HL := Lib.hid ((Below.refl w.heap.size w).alloc (Nat.le_refl _) (Obj.cells ((newF c ch win lim tm).cells (.slice none 0 0) (.slice none 0 0) (.slice none 0 0) (.slice none 0 0)).toArray 66))
  go_enter Try.func10, Try.ntmps10
  go_wp2_with fail
  go_ret2
  refine ⟨rfl, HL.out, .slice none 0 0, .slice none 0 0, .slice none 0 0, .slice none 0 0, ⟨HB.out, q_nil _ _ _ _, q_nil _ _ _ _, q_nil _ _ _ _, q_nil _ _ _ _, ?_, ?_, ?_, ?_, ?_, ?_, ?_, ?_, ?_, ?_⟩, ?_⟩
  iterate 4 (intro h; cases h)
  iterate 6 (intro k h; cases h)
  intro k hk
  rcases mem_own.1 hk with e | e | e | e | e
  · simp [e]
  all_goals cases e
def beginF (s : Fs) (how next : Int) : Fs :=
  { s with service := if how = 1 then 2 else 1, how := how, set := next, held := false, susp := false, asked := false, given := false, due := how == 3 || how == 4, tries := 1, clock := s.timeout, base := if how = 1 then next else s.base }
set_option maxHeartbeats 4000000 in
set_option maxRecDepth 100000 in
theorem Begin_ok (how next : Int) (s : Fs) (g : Nat) (S : List Nat) (w : World) (h1 : 1 ≤ how) (h2 : how ≤ 4) (h3 : 0 ≤ next) (h4 : next ≤ 255) (hs : s.service = 0) (hw : s.window ≠ 0) (h : FopIn w g S s) :
    Calls Try.prog 11 #[.pointer (some ⟨g, 0, none⟩), .int .i64 how, .int .i64 next] w fun e w' => e = .returned (.int .i64 0) ∧ FopTo w w' g S (beginF s how next) := by
  have HN := Lib.hid (foNone_in s g S w false (by simpa using hw) h)
  have HT := Lib.hid (Pt.refl h)
  have k0 : (s.service != 0) = false := by simp [hs]
  have k1 : ¬ next < 0 := by omega
  have k2 : ¬ 255 < next := by omega
  clear h hs hw
  have hc : how = 1 ∨ how = 2 ∨ how = 3 ∨ how = 4 := by omega
  clear h1 h2
  rcases hc with rfl | rfl | rfl | rfl
  · obtain ⟨ve, vw, vs, vb, hF, hS⟩ := HT.out.in_
    have HF := Lib.hid hF; have HS := Lib.hid hS; have HB := Lib.hid hF.blk; clear hF hS
    have c6 := HB.out.cell 6
    have c7 := HB.out.cell 7
    have c8 := HB.out.cell 8
    have c16 := HB.out.cell 16
    have c17 := HB.out.cell 17
    have c18 := HB.out.cell 18
    have c19 := HB.out.cell 19
    have c20 := HB.out.cell 20
    have f6 := HB.out.free 6
    have f7 := HB.out.free 7
    have f8 := HB.out.free 8
    have f16 := HB.out.free 16
    have f17 := HB.out.free 17
    have f18 := HB.out.free 18
    have f19 := HB.out.free 19
    have f20 := HB.out.free 20
    simp only [Fs.cells, List.getElem?_cons_zero, List.getElem?_cons_succ] at c6 c7 c8 c16 c17 c18 c19 c20
    go_enter Try.func11, Try.ntmps11
    go_wp2_with fail
    refine HN.out.mono ?_
    rintro e w1 ⟨rfl, rfl⟩
    go_wp2_with fail
    replace HT := Lib.hid (HT.out.upd (s' := { s with service := 1, how := 1, set := next, held := false, susp := false, asked := false, given := false, due := false }) HF.out HS.out ((((((((HB.out.set 6 _).set 7 _).set 8 _).set 18 _).set 19 _).set 20 _).set 17 _).set 16 _) (((((((((Keep.refl [g] _).setCell (.inl (by simp)) _).setCell (.inl (by simp)) _).setCell (.inl (by simp)) _).setCell (.inl (by simp)) _).setCell (.inl (by simp)) _).setCell (.inl (by simp)) _).setCell (.inl (by simp)) _).setCell (.inl (by simp)) _) rfl rfl rfl rfl)
    clear HF HS HB c6 c7 c8 c16 c17 c18 c19 c20 f6 f7 f8 f16 f17 f18 f19 f20
    refine (again_in { s with service := 1, how := 1, set := next, held := false, susp := false, asked := false, given := false, due := false } g S _ HT.out.in_).mono ?_
    rintro e w2 ⟨rfl, hT⟩
    obtain ⟨S1, hT⟩ := HT.out.trans hT
    replace HT := Lib.hid hT; clear hT
    obtain ⟨ve, vw, vs, vb, hF, hS⟩ := HT.out.in_
    have HF := Lib.hid hF; have HS := Lib.hid hS; have HB := Lib.hid hF.blk; clear hF hS
    have c6 := HB.out.cell 6
    have c9 := HB.out.cell 9
    have f6 := HB.out.free 6
    have f9 := HB.out.free 9
    simp only [Fs.cells, List.getElem?_cons_zero, List.getElem?_cons_succ] at c6 c9
    go_wp2_with fail
    go_ret
    exact ⟨rfl, (HT.out.upd (s' := beginF s 1 next) HF.out HS.out ((HB.out.set 6 _).set 9 _) (((Keep.refl [g] _).setCell (.inl (by simp)) _).setCell (.inl (by simp)) _) rfl rfl rfl rfl).to⟩
  · obtain ⟨ve, vw, vs, vb, hF, hS⟩ := HT.out.in_
    have HF := Lib.hid hF; have HS := Lib.hid hS; have HB := Lib.hid hF.blk; clear hF hS
    have c6 := HB.out.cell 6
    have c7 := HB.out.cell 7
    have c8 := HB.out.cell 8
    have c16 := HB.out.cell 16
    have c17 := HB.out.cell 17
    have c18 := HB.out.cell 18
    have c19 := HB.out.cell 19
    have c20 := HB.out.cell 20
    have f6 := HB.out.free 6
    have f7 := HB.out.free 7
    have f8 := HB.out.free 8
    have f16 := HB.out.free 16
    have f17 := HB.out.free 17
    have f18 := HB.out.free 18
    have f19 := HB.out.free 19
    have f20 := HB.out.free 20
    simp only [Fs.cells, List.getElem?_cons_zero, List.getElem?_cons_succ] at c6 c7 c8 c16 c17 c18 c19 c20
    go_enter Try.func11, Try.ntmps11
    go_wp2_with fail
    refine HN.out.mono ?_
    rintro e w1 ⟨rfl, rfl⟩
    go_wp2_with fail
    replace HT := Lib.hid (HT.out.upd (s' := { s with service := 1, how := 2, set := next, held := false, susp := false, asked := false, given := false, due := false }) HF.out HS.out ((((((((HB.out.set 6 _).set 7 _).set 8 _).set 18 _).set 19 _).set 20 _).set 17 _).set 16 _) (((((((((Keep.refl [g] _).setCell (.inl (by simp)) _).setCell (.inl (by simp)) _).setCell (.inl (by simp)) _).setCell (.inl (by simp)) _).setCell (.inl (by simp)) _).setCell (.inl (by simp)) _).setCell (.inl (by simp)) _).setCell (.inl (by simp)) _) rfl rfl rfl rfl)
    clear HF HS HB c6 c7 c8 c16 c17 c18 c19 c20 f6 f7 f8 f16 f17 f18 f19 f20
    refine (again_in { s with service := 1, how := 2, set := next, held := false, susp := false, asked := false, given := false, due := false } g S _ HT.out.in_).mono ?_
    rintro e w2 ⟨rfl, hT⟩
    obtain ⟨S1, hT⟩ := HT.out.trans hT
    replace HT := Lib.hid hT; clear hT
    go_wp2_with fail
    go_ret
    exact ⟨rfl, HT.out.to⟩
  · obtain ⟨ve, vw, vs, vb, hF, hS⟩ := HT.out.in_
    have HF := Lib.hid hF; have HS := Lib.hid hS; have HB := Lib.hid hF.blk; clear hF hS
    have c6 := HB.out.cell 6
    have c7 := HB.out.cell 7
    have c8 := HB.out.cell 8
    have c16 := HB.out.cell 16
    have c17 := HB.out.cell 17
    have c18 := HB.out.cell 18
    have c19 := HB.out.cell 19
    have c20 := HB.out.cell 20
    have f6 := HB.out.free 6
    have f7 := HB.out.free 7
    have f8 := HB.out.free 8
    have f16 := HB.out.free 16
    have f17 := HB.out.free 17
    have f18 := HB.out.free 18
    have f19 := HB.out.free 19
    have f20 := HB.out.free 20
    simp only [Fs.cells, List.getElem?_cons_zero, List.getElem?_cons_succ] at c6 c7 c8 c16 c17 c18 c19 c20
    go_enter Try.func11, Try.ntmps11
    go_wp2_with fail
    refine HN.out.mono ?_
    rintro e w1 ⟨rfl, rfl⟩
    go_wp2_with fail
    replace HT := Lib.hid (HT.out.upd (s' := { s with service := 1, how := 3, set := next, held := false, susp := false, asked := false, given := false, due := true }) HF.out HS.out ((((((((HB.out.set 6 _).set 7 _).set 8 _).set 18 _).set 19 _).set 20 _).set 17 _).set 16 _) (((((((((Keep.refl [g] _).setCell (.inl (by simp)) _).setCell (.inl (by simp)) _).setCell (.inl (by simp)) _).setCell (.inl (by simp)) _).setCell (.inl (by simp)) _).setCell (.inl (by simp)) _).setCell (.inl (by simp)) _).setCell (.inl (by simp)) _) rfl rfl rfl rfl)
    clear HF HS HB c6 c7 c8 c16 c17 c18 c19 c20 f6 f7 f8 f16 f17 f18 f19 f20
    refine (again_in { s with service := 1, how := 3, set := next, held := false, susp := false, asked := false, given := false, due := true } g S _ HT.out.in_).mono ?_
    rintro e w2 ⟨rfl, hT⟩
    obtain ⟨S1, hT⟩ := HT.out.trans hT
    replace HT := Lib.hid hT; clear hT
    go_wp2_with fail
    go_ret
    exact ⟨rfl, HT.out.to⟩
  · obtain ⟨ve, vw, vs, vb, hF, hS⟩ := HT.out.in_
    have HF := Lib.hid hF; have HS := Lib.hid hS; have HB := Lib.hid hF.blk; clear hF hS
    have c6 := HB.out.cell 6
    have c7 := HB.out.cell 7
    have c8 := HB.out.cell 8
    have c16 := HB.out.cell 16
    have c17 := HB.out.cell 17
    have c18 := HB.out.cell 18
    have c19 := HB.out.cell 19
    have c20 := HB.out.cell 20
    have f6 := HB.out.free 6
    have f7 := HB.out.free 7
    have f8 := HB.out.free 8
    have f16 := HB.out.free 16
    have f17 := HB.out.free 17
    have f18 := HB.out.free 18
    have f19 := HB.out.free 19
    have f20 := HB.out.free 20
    simp only [Fs.cells, List.getElem?_cons_zero, List.getElem?_cons_succ] at c6 c7 c8 c16 c17 c18 c19 c20
    go_enter Try.func11, Try.ntmps11
    go_wp2_with fail
    refine HN.out.mono ?_
    rintro e w1 ⟨rfl, rfl⟩
    go_wp2_with fail
    replace HT := Lib.hid (HT.out.upd (s' := { s with service := 1, how := 4, set := next, held := false, susp := false, asked := false, given := false, due := true }) HF.out HS.out ((((((((HB.out.set 6 _).set 7 _).set 8 _).set 18 _).set 19 _).set 20 _).set 17 _).set 16 _) (((((((((Keep.refl [g] _).setCell (.inl (by simp)) _).setCell (.inl (by simp)) _).setCell (.inl (by simp)) _).setCell (.inl (by simp)) _).setCell (.inl (by simp)) _).setCell (.inl (by simp)) _).setCell (.inl (by simp)) _).setCell (.inl (by simp)) _) rfl rfl rfl rfl)
    clear HF HS HB c6 c7 c8 c16 c17 c18 c19 c20 f6 f7 f8 f16 f17 f18 f19 f20
    refine (again_in { s with service := 1, how := 4, set := next, held := false, susp := false, asked := false, given := false, due := true } g S _ HT.out.in_).mono ?_
    rintro e w2 ⟨rfl, hT⟩
    obtain ⟨S1, hT⟩ := HT.out.trans hT
    replace HT := Lib.hid hT; clear hT
    go_wp2_with fail
    go_ret
    exact ⟨rfl, HT.out.to⟩
end Go.Proofs.Ytbncejmohhejlaa
