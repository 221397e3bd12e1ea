/- What is proved here: what the automaton on the ground does with a control word while the service begins. -/
import Derived.Test.YtbncejmohhejlaaFx
set_option linter.unusedVariables false
set_option linter.unusedSimpArgs false
namespace Go.Proofs.Ytbncejmohhejlaa
open Go.RowKit
def startR (s : Fs) (xn : Int) : Fs := { s with service := 2, base := xn, due := false, events := s.events ++ [⟨1, 0, 0⟩] }
section
variable (s : Fs) (g : Nat) (S : List Nat) (w : World)
set_option maxHeartbeats 8000000 in
set_option maxRecDepth 100000 in
theorem start_ready (xc xb xn : Int) (hh : s.how = 2 ∧ s.given = false ∨ s.how = 3 ∧ s.given = true ∨ s.how = 4 ∧ s.given = true) (h4 : s.how = 4 → xn = s.set) (he : s.events.length ≤ 1000000) (hSl : ∀ i ∈ S, i < w.heap.size) (h : FopIn w g S s) :
    Calls Try.prog 45 #[.pointer (some ⟨g, 0, none⟩), .agg #[.int .i64 xc, .bool false, .bool false, .bool false, .int .i64 xb, .int .i64 xn]] w fun e w' => e = .returned (.tuple #[]) ∧ FopTo w w' g S (startR s xn) := by
  obtain ⟨bq, hbq⟩ : ∃ b, (xn == s.set) = b := ⟨_, rfl⟩
  have hb4 : s.how = 4 → bq = true := fun e => by rw [← hbq, h4 e]; simp
  clear h4
  have HT := Lib.hid ((Pt.refl h).keepB ((Below.refl w.heap.size w).alloc (Nat.le_refl _) (Obj.cells #[.int .i64 xc, .bool false, .bool false, .bool false, .int .i64 xb, .int .i64 xn] 35)))
  have HX := Lib.hid (Blk.new w [.int .i64 xc, .bool false, .bool false, .bool false, .int .i64 xb, .int .i64 xn] 35)
  have HSL := Lib.hid hSl
  clear h hSl
  go_enter Try.func45, Try.ntmps45
  go_upto_region 1 with fail
  refine gen_world (fun W => Pt w W g S S s ∧ Blk W w.heap.size [.int .i64 xc, .bool false, .bool false, .bool false, .int .i64 xb, .int .i64 xn] 35) ⟨HT.out, HX.out⟩ ?_
  clear HT HX
  rintro w1 ⟨hT, hX⟩
  have HT := Lib.hid hT; have HX := Lib.hid hX; clear hT hX
  have HN0 := Lib.hid (fun (h : w.heap.size ∈ S) => (by have := HSL.out _ h; omega : False))
  have x0 := HX.out.cell 0
  have x1 := HX.out.cell 1
  have x2 := HX.out.cell 2
  have x3 := HX.out.cell 3
  have x4 := HX.out.cell 4
  have x5 := HX.out.cell 5
  simp only [List.getElem?_cons_zero, List.getElem?_cons_succ] at x0 x1 x2 x3 x4 x5
  obtain ⟨ve, vw, vs, vb, hF, hS⟩ := HT.out.in_
  have HF := Lib.hid hF; have HS := Lib.hid hS; have HB := Lib.hid hF.blk; clear hF hS
  have c7 := HB.out.cell 7
  have c8 := HB.out.cell 8
  have c17 := HB.out.cell 17
  have f6 := HB.out.free 6
  have f9 := HB.out.free 9
  have f16 := HB.out.free 16
  simp only [Fs.cells, List.getElem?_cons_zero, List.getElem?_cons_succ] at c7 c8 c17
  go_upto_region 2 with fail
  rcases hh with ⟨e1, e2⟩ | ⟨e1, e2⟩ | ⟨e1, e2⟩
  all_goals
    rw [e1] at c7
    rw [e2] at c17
  · clear e1 e2 hb4
    cases bq
    all_goals
      go_quiet (fail)
      refine post_any (fun W => Pt w W g S S s ∧ Blk W w.heap.size [.int .i64 xc, .bool false, .bool false, .bool false, .int .i64 xb, .int .i64 xn] 35) ⟨HT.out.drewN _, HX.out.drewN _⟩ ?_
      clear HF HS HB c7 c8 c17 f6 f9 f16
      clear HT HX x0 x1 x2 x3 x4 x5
      rintro w2 ⟨hT, hX⟩
      have HT := Lib.hid hT; have HX := Lib.hid hX; clear hT hX
      obtain ⟨ve, vw, vs, vb, hF, hS⟩ := HT.out.in_
      have HF := Lib.hid hF; have HS := Lib.hid hS; have HB := Lib.hid hF.blk; clear hF hS
      have c6 := HB.out.cell 6
      have c9 := HB.out.cell 9
      have c16 := HB.out.cell 16
      have f6 := HB.out.free 6
      have f9 := HB.out.free 9
      have f16 := HB.out.free 16
      simp only [Fs.cells, List.getElem?_cons_zero, List.getElem?_cons_succ] at c6 c9 c16
      have x5 := HX.out.cell 5
      simp only [List.getElem?_cons_zero, List.getElem?_cons_succ] at x5
      go_upto_region 3 with fail
      go_region
      refine post_any (fun W => Pt w W g S S { s with service := 2, base := xn, due := false }) (HT.out.upd (s' := { s with service := 2, base := xn, due := false }) HF.out HS.out (((HB.out.set 6 (.int .i64 2)).set 9 (.int .i64 xn)).set 16 (.bool false)) ((((Keep.refl [g] _).setCell (.inl (by simp)) _).setCell (.inl (by simp)) _).setCell (.inl (by simp)) _) rfl rfl rfl rfl).drew ?_
      clear HF HS HB c6 c9 c16 f6 f9 f16
      clear HT HX x5
      rintro w3 hT
      have HT := Lib.hid hT; clear hT
      go_wp2_with fail
      refine (report_in ⟨1, 0, 0⟩ { s with service := 2, base := xn, due := false } g S _ he HT.out.in_).mono ?_
      rintro e w4 ⟨rfl, hT⟩
      obtain ⟨S1, hT⟩ := HT.out.trans hT
      replace HT := Lib.hid hT; clear hT
      go_wp2_with fail
      go_end0
      exact ⟨rfl, HT.out.to⟩
  · clear e1 e2 hb4
    cases bq
    all_goals
      go_quiet (fail)
      refine post_any (fun W => Pt w W g S S s ∧ Blk W w.heap.size [.int .i64 xc, .bool false, .bool false, .bool false, .int .i64 xb, .int .i64 xn] 35) ⟨HT.out.drewN _, HX.out.drewN _⟩ ?_
      clear HF HS HB c7 c8 c17 f6 f9 f16
      clear HT HX x0 x1 x2 x3 x4 x5
      rintro w2 ⟨hT, hX⟩
      have HT := Lib.hid hT; have HX := Lib.hid hX; clear hT hX
      obtain ⟨ve, vw, vs, vb, hF, hS⟩ := HT.out.in_
      have HF := Lib.hid hF; have HS := Lib.hid hS; have HB := Lib.hid hF.blk; clear hF hS
      have c6 := HB.out.cell 6
      have c9 := HB.out.cell 9
      have c16 := HB.out.cell 16
      have f6 := HB.out.free 6
      have f9 := HB.out.free 9
      have f16 := HB.out.free 16
      simp only [Fs.cells, List.getElem?_cons_zero, List.getElem?_cons_succ] at c6 c9 c16
      have x5 := HX.out.cell 5
      simp only [List.getElem?_cons_zero, List.getElem?_cons_succ] at x5
      go_upto_region 3 with fail
      go_region
      refine post_any (fun W => Pt w W g S S { s with service := 2, base := xn, due := false }) (HT.out.upd (s' := { s with service := 2, base := xn, due := false }) HF.out HS.out (((HB.out.set 6 (.int .i64 2)).set 9 (.int .i64 xn)).set 16 (.bool false)) ((((Keep.refl [g] _).setCell (.inl (by simp)) _).setCell (.inl (by simp)) _).setCell (.inl (by simp)) _) rfl rfl rfl rfl).drew ?_
      clear HF HS HB c6 c9 c16 f6 f9 f16
      clear HT HX x5
      rintro w3 hT
      have HT := Lib.hid hT; clear hT
      go_wp2_with fail
      refine (report_in ⟨1, 0, 0⟩ { s with service := 2, base := xn, due := false } g S _ he HT.out.in_).mono ?_
      rintro e w4 ⟨rfl, hT⟩
      obtain ⟨S1, hT⟩ := HT.out.trans hT
      replace HT := Lib.hid hT; clear hT
      go_wp2_with fail
      go_end0
      exact ⟨rfl, HT.out.to⟩
  · obtain rfl := hb4 e1
    clear e1 e2 hb4
    go_quiet (fail)
    refine post_any (fun W => Pt w W g S S s ∧ Blk W w.heap.size [.int .i64 xc, .bool false, .bool false, .bool false, .int .i64 xb, .int .i64 xn] 35) ⟨HT.out.drewN _, HX.out.drewN _⟩ ?_
    clear HF HS HB c7 c8 c17 f6 f9 f16
    clear HT HX x0 x1 x2 x3 x4 x5
    rintro w2 ⟨hT, hX⟩
    have HT := Lib.hid hT; have HX := Lib.hid hX; clear hT hX
    obtain ⟨ve, vw, vs, vb, hF, hS⟩ := HT.out.in_
    have HF := Lib.hid hF; have HS := Lib.hid hS; have HB := Lib.hid hF.blk; clear hF hS
    have c6 := HB.out.cell 6
    have c9 := HB.out.cell 9
    have c16 := HB.out.cell 16
    have f6 := HB.out.free 6
    have f9 := HB.out.free 9
    have f16 := HB.out.free 16
    simp only [Fs.cells, List.getElem?_cons_zero, List.getElem?_cons_succ] at c6 c9 c16
    have x5 := HX.out.cell 5
    simp only [List.getElem?_cons_zero, List.getElem?_cons_succ] at x5
    go_upto_region 3 with fail
    go_region
    refine post_any (fun W => Pt w W g S S { s with service := 2, base := xn, due := false }) (HT.out.upd (s' := { s with service := 2, base := xn, due := false }) HF.out HS.out (((HB.out.set 6 (.int .i64 2)).set 9 (.int .i64 xn)).set 16 (.bool false)) ((((Keep.refl [g] _).setCell (.inl (by simp)) _).setCell (.inl (by simp)) _).setCell (.inl (by simp)) _) rfl rfl rfl rfl).drew ?_
    clear HF HS HB c6 c9 c16 f6 f9 f16
    clear HT HX x5
    rintro w3 hT
    have HT := Lib.hid hT; clear hT
    go_wp2_with fail
    refine (report_in ⟨1, 0, 0⟩ { s with service := 2, base := xn, due := false } g S _ he HT.out.in_).mono ?_
    rintro e w4 ⟨rfl, hT⟩
    obtain ⟨S1, hT⟩ := HT.out.trans hT
    replace HT := Lib.hid hT; clear hT
    go_wp2_with fail
    go_end0
    exact ⟨rfl, HT.out.to⟩
set_option maxHeartbeats 8000000 in
set_option maxRecDepth 100000 in
theorem start_lock (xc xb xn : Int) (xw xr : Bool) (hh : s.how = 2) (he : s.events.length ≤ 1000000) (hSl : ∀ i ∈ S, i < w.heap.size) (h : FopIn w g S s) :
    Calls Try.prog 45 #[.pointer (some ⟨g, 0, none⟩), .agg #[.int .i64 xc, .bool true, .bool xw, .bool xr, .int .i64 xb, .int .i64 xn]] w fun e w' => e = .returned (.tuple #[]) ∧ FopTo w w' g S (alertF s 2) := by
  have HT := Lib.hid ((Pt.refl h).keepB ((Below.refl w.heap.size w).alloc (Nat.le_refl _) (Obj.cells #[.int .i64 xc, .bool true, .bool xw, .bool xr, .int .i64 xb, .int .i64 xn] 35)))
  have HX := Lib.hid (Blk.new w [.int .i64 xc, .bool true, .bool xw, .bool xr, .int .i64 xb, .int .i64 xn] 35)
  have HSL := Lib.hid hSl
  clear h hSl
  go_enter Try.func45, Try.ntmps45
  go_upto_region 1 with fail
  refine gen_world (fun W => Pt w W g S S s ∧ Blk W w.heap.size [.int .i64 xc, .bool true, .bool xw, .bool xr, .int .i64 xb, .int .i64 xn] 35) ⟨HT.out, HX.out⟩ ?_
  clear HT HX
  rintro w1 ⟨hT, hX⟩
  have HT := Lib.hid hT; have HX := Lib.hid hX; clear hT hX
  have HN0 := Lib.hid (fun (h : w.heap.size ∈ S) => (by have := HSL.out _ h; omega : False))
  have x0 := HX.out.cell 0
  have x1 := HX.out.cell 1
  have x2 := HX.out.cell 2
  have x3 := HX.out.cell 3
  have x4 := HX.out.cell 4
  have x5 := HX.out.cell 5
  simp only [List.getElem?_cons_zero, List.getElem?_cons_succ] at x0 x1 x2 x3 x4 x5
  obtain ⟨ve, vw, vs, vb, hF, hS⟩ := HT.out.in_
  have HF := Lib.hid hF; have HS := Lib.hid hS; have HB := Lib.hid hF.blk; clear hF hS
  have c7 := HB.out.cell 7
  have c8 := HB.out.cell 8
  have c17 := HB.out.cell 17
  have f6 := HB.out.free 6
  have f9 := HB.out.free 9
  have f16 := HB.out.free 16
  simp only [Fs.cells, List.getElem?_cons_zero, List.getElem?_cons_succ] at c7 c8 c17
  rw [hh] at c7
  clear hh
  go_upto_region 2 with fail
  go_quiet (fail)
  refine post_any (fun W => Pt w W g S S s ∧ Blk W w.heap.size [.int .i64 xc, .bool true, .bool xw, .bool xr, .int .i64 xb, .int .i64 xn] 35 ∧ W.cell? ⟨g, 7, none⟩ = some (.int .i64 2)) ⟨HT.out.drewN _, HX.out.drewN _, c7⟩ ?_
  clear HF HS HB c7 c8 c17 f6 f9 f16
  clear HT HX x0 x1 x2 x3 x4 x5
  rintro w2 ⟨hT, hX, c7⟩
  have HT := Lib.hid hT; have HX := Lib.hid hX; clear hT hX
  have x0 := HX.out.cell 0
  have x1 := HX.out.cell 1
  have x2 := HX.out.cell 2
  have x3 := HX.out.cell 3
  have x4 := HX.out.cell 4
  have x5 := HX.out.cell 5
  simp only [List.getElem?_cons_zero, List.getElem?_cons_succ] at x0 x1 x2 x3 x4 x5
  go_wp2_with fail
  refine (alert_in 2 s g S _ he HT.out.in_).mono ?_
  rintro e w3 ⟨rfl, hT⟩
  obtain ⟨S1, hT⟩ := HT.out.trans hT
  replace HT := Lib.hid hT; clear hT
  go_wp2_with fail
  go_end0
  exact ⟨rfl, HT.out.to⟩
set_option maxHeartbeats 8000000 in
set_option maxRecDepth 100000 in
theorem start_idle4 (xc xb xn : Int) (e1 : s.how = 4) (e2 : s.given = true) (hx : xn ≠ s.set) (hSl : ∀ i ∈ S, i < w.heap.size) (h : FopIn w g S s) :
    Calls Try.prog 45 #[.pointer (some ⟨g, 0, none⟩), .agg #[.int .i64 xc, .bool false, .bool false, .bool false, .int .i64 xb, .int .i64 xn]] w fun e w' => e = .returned (.tuple #[]) ∧ FopTo w w' g S s := by
  have k2 : (xn == s.set) = false := by simpa using hx
  clear hx
  have HT := Lib.hid ((Pt.refl h).keepB ((Below.refl w.heap.size w).alloc (Nat.le_refl _) (Obj.cells #[.int .i64 xc, .bool false, .bool false, .bool false, .int .i64 xb, .int .i64 xn] 35)))
  have HX := Lib.hid (Blk.new w [.int .i64 xc, .bool false, .bool false, .bool false, .int .i64 xb, .int .i64 xn] 35)
  have HSL := Lib.hid hSl
  clear h hSl
  go_enter Try.func45, Try.ntmps45
  go_upto_region 1 with fail
  refine gen_world (fun W => Pt w W g S S s ∧ Blk W w.heap.size [.int .i64 xc, .bool false, .bool false, .bool false, .int .i64 xb, .int .i64 xn] 35) ⟨HT.out, HX.out⟩ ?_
  clear HT HX
  rintro w1 ⟨hT, hX⟩
  have HT := Lib.hid hT; have HX := Lib.hid hX; clear hT hX
  have HN0 := Lib.hid (fun (h : w.heap.size ∈ S) => (by have := HSL.out _ h; omega : False))
  have x0 := HX.out.cell 0
  have x1 := HX.out.cell 1
  have x2 := HX.out.cell 2
  have x3 := HX.out.cell 3
  have x4 := HX.out.cell 4
  have x5 := HX.out.cell 5
  simp only [List.getElem?_cons_zero, List.getElem?_cons_succ] at x0 x1 x2 x3 x4 x5
  obtain ⟨ve, vw, vs, vb, hF, hS⟩ := HT.out.in_
  have HF := Lib.hid hF; have HS := Lib.hid hS; have HB := Lib.hid hF.blk; clear hF hS
  have c7 := HB.out.cell 7
  have c8 := HB.out.cell 8
  have c17 := HB.out.cell 17
  have f6 := HB.out.free 6
  have f9 := HB.out.free 9
  have f16 := HB.out.free 16
  simp only [Fs.cells, List.getElem?_cons_zero, List.getElem?_cons_succ] at c7 c8 c17
  rw [e1] at c7
  rw [e2] at c17
  clear e1 e2
  go_upto_region 2 with fail
  go_quiet (fail)
  refine post_any (fun W => Pt w W g S S s ∧ Blk W w.heap.size [.int .i64 xc, .bool false, .bool false, .bool false, .int .i64 xb, .int .i64 xn] 35 ∧ W.cell? ⟨g, 7, none⟩ = some (.int .i64 4)) ⟨HT.out.drewN _, HX.out.drewN _, c7⟩ ?_
  clear HF HS HB c7 c8 c17 f6 f9 f16
  clear HT HX x0 x1 x2 x3 x4 x5
  rintro w2 ⟨hT, hX, c7⟩
  have HT := Lib.hid hT; have HX := Lib.hid hX; clear hT hX
  have x0 := HX.out.cell 0
  have x1 := HX.out.cell 1
  have x2 := HX.out.cell 2
  have x3 := HX.out.cell 3
  have x4 := HX.out.cell 4
  have x5 := HX.out.cell 5
  simp only [List.getElem?_cons_zero, List.getElem?_cons_succ] at x0 x1 x2 x3 x4 x5
  go_wp2_with fail
  go_end0
  exact ⟨rfl, HT.out.to⟩
set_option maxHeartbeats 8000000 in
set_option maxRecDepth 100000 in
theorem start_dirty001 (xc xb xn : Int) (hh : s.how ≠ 2 ∨ true = true) (hSl : ∀ i ∈ S, i < w.heap.size) (h : FopIn w g S s) :
    Calls Try.prog 45 #[.pointer (some ⟨g, 0, none⟩), .agg #[.int .i64 xc, .bool false, .bool false, .bool true, .int .i64 xb, .int .i64 xn]] w fun e w' => e = .returned (.tuple #[]) ∧ FopTo w w' g S s := by
  clear hh
  have HT := Lib.hid ((Pt.refl h).keepB ((Below.refl w.heap.size w).alloc (Nat.le_refl _) (Obj.cells #[.int .i64 xc, .bool false, .bool false, .bool true, .int .i64 xb, .int .i64 xn] 35)))
  have HX := Lib.hid (Blk.new w [.int .i64 xc, .bool false, .bool false, .bool true, .int .i64 xb, .int .i64 xn] 35)
  have HSL := Lib.hid hSl
  clear h hSl
  go_enter Try.func45, Try.ntmps45
  go_upto_region 1 with fail
  refine gen_world (fun W => Pt w W g S S s ∧ Blk W w.heap.size [.int .i64 xc, .bool false, .bool false, .bool true, .int .i64 xb, .int .i64 xn] 35) ⟨HT.out, HX.out⟩ ?_
  clear HT HX
  rintro w1 ⟨hT, hX⟩
  have HT := Lib.hid hT; have HX := Lib.hid hX; clear hT hX
  have HN0 := Lib.hid (fun (h : w.heap.size ∈ S) => (by have := HSL.out _ h; omega : False))
  have x0 := HX.out.cell 0
  have x1 := HX.out.cell 1
  have x2 := HX.out.cell 2
  have x3 := HX.out.cell 3
  have x4 := HX.out.cell 4
  have x5 := HX.out.cell 5
  simp only [List.getElem?_cons_zero, List.getElem?_cons_succ] at x0 x1 x2 x3 x4 x5
  obtain ⟨ve, vw, vs, vb, hF, hS⟩ := HT.out.in_
  have HF := Lib.hid hF; have HS := Lib.hid hS; have HB := Lib.hid hF.blk; clear hF hS
  have c7 := HB.out.cell 7
  have c8 := HB.out.cell 8
  have c17 := HB.out.cell 17
  have f6 := HB.out.free 6
  have f9 := HB.out.free 9
  have f16 := HB.out.free 16
  simp only [Fs.cells, List.getElem?_cons_zero, List.getElem?_cons_succ] at c7 c8 c17
  go_upto_region 2 with fail
  go_quiet (fail)
  refine post_any (fun W => Pt w W g S S s ∧ Blk W w.heap.size [.int .i64 xc, .bool false, .bool false, .bool true, .int .i64 xb, .int .i64 xn] 35 ∧ W.cell? ⟨g, 7, none⟩ = some (.int .i64 s.how)) ⟨HT.out.drewN _, HX.out.drewN _, c7⟩ ?_
  clear HF HS HB c7 c8 c17 f6 f9 f16
  clear HT HX x0 x1 x2 x3 x4 x5
  rintro w2 ⟨hT, hX, c7⟩
  have HT := Lib.hid hT; have HX := Lib.hid hX; clear hT hX
  have x0 := HX.out.cell 0
  have x1 := HX.out.cell 1
  have x2 := HX.out.cell 2
  have x3 := HX.out.cell 3
  have x4 := HX.out.cell 4
  have x5 := HX.out.cell 5
  simp only [List.getElem?_cons_zero, List.getElem?_cons_succ] at x0 x1 x2 x3 x4 x5
  go_wp2_with fail
  go_end0
  exact ⟨rfl, HT.out.to⟩
set_option maxHeartbeats 8000000 in
set_option maxRecDepth 100000 in
theorem start_dirty010 (xc xb xn : Int) (hh : s.how ≠ 2 ∨ true = true) (hSl : ∀ i ∈ S, i < w.heap.size) (h : FopIn w g S s) :
    Calls Try.prog 45 #[.pointer (some ⟨g, 0, none⟩), .agg #[.int .i64 xc, .bool false, .bool true, .bool false, .int .i64 xb, .int .i64 xn]] w fun e w' => e = .returned (.tuple #[]) ∧ FopTo w w' g S s := by
  clear hh
  have HT := Lib.hid ((Pt.refl h).keepB ((Below.refl w.heap.size w).alloc (Nat.le_refl _) (Obj.cells #[.int .i64 xc, .bool false, .bool true, .bool false, .int .i64 xb, .int .i64 xn] 35)))
  have HX := Lib.hid (Blk.new w [.int .i64 xc, .bool false, .bool true, .bool false, .int .i64 xb, .int .i64 xn] 35)
  have HSL := Lib.hid hSl
  clear h hSl
  go_enter Try.func45, Try.ntmps45
  go_upto_region 1 with fail
  refine gen_world (fun W => Pt w W g S S s ∧ Blk W w.heap.size [.int .i64 xc, .bool false, .bool true, .bool false, .int .i64 xb, .int .i64 xn] 35) ⟨HT.out, HX.out⟩ ?_
  clear HT HX
  rintro w1 ⟨hT, hX⟩
  have HT := Lib.hid hT; have HX := Lib.hid hX; clear hT hX
  have HN0 := Lib.hid (fun (h : w.heap.size ∈ S) => (by have := HSL.out _ h; omega : False))
  have x0 := HX.out.cell 0
  have x1 := HX.out.cell 1
  have x2 := HX.out.cell 2
  have x3 := HX.out.cell 3
  have x4 := HX.out.cell 4
  have x5 := HX.out.cell 5
  simp only [List.getElem?_cons_zero, List.getElem?_cons_succ] at x0 x1 x2 x3 x4 x5
  obtain ⟨ve, vw, vs, vb, hF, hS⟩ := HT.out.in_
  have HF := Lib.hid hF; have HS := Lib.hid hS; have HB := Lib.hid hF.blk; clear hF hS
  have c7 := HB.out.cell 7
  have c8 := HB.out.cell 8
  have c17 := HB.out.cell 17
  have f6 := HB.out.free 6
  have f9 := HB.out.free 9
  have f16 := HB.out.free 16
  simp only [Fs.cells, List.getElem?_cons_zero, List.getElem?_cons_succ] at c7 c8 c17
  go_upto_region 2 with fail
  go_quiet (fail)
  refine post_any (fun W => Pt w W g S S s ∧ Blk W w.heap.size [.int .i64 xc, .bool false, .bool true, .bool false, .int .i64 xb, .int .i64 xn] 35 ∧ W.cell? ⟨g, 7, none⟩ = some (.int .i64 s.how)) ⟨HT.out.drewN _, HX.out.drewN _, c7⟩ ?_
  clear HF HS HB c7 c8 c17 f6 f9 f16
  clear HT HX x0 x1 x2 x3 x4 x5
  rintro w2 ⟨hT, hX, c7⟩
  have HT := Lib.hid hT; have HX := Lib.hid hX; clear hT hX
  have x0 := HX.out.cell 0
  have x1 := HX.out.cell 1
  have x2 := HX.out.cell 2
  have x3 := HX.out.cell 3
  have x4 := HX.out.cell 4
  have x5 := HX.out.cell 5
  simp only [List.getElem?_cons_zero, List.getElem?_cons_succ] at x0 x1 x2 x3 x4 x5
  go_wp2_with fail
  go_end0
  exact ⟨rfl, HT.out.to⟩
set_option maxHeartbeats 8000000 in
set_option maxRecDepth 100000 in
theorem start_dirty011 (xc xb xn : Int) (hh : s.how ≠ 2 ∨ true = true) (hSl : ∀ i ∈ S, i < w.heap.size) (h : FopIn w g S s) :
    Calls Try.prog 45 #[.pointer (some ⟨g, 0, none⟩), .agg #[.int .i64 xc, .bool false, .bool true, .bool true, .int .i64 xb, .int .i64 xn]] w fun e w' => e = .returned (.tuple #[]) ∧ FopTo w w' g S s := by
  clear hh
  have HT := Lib.hid ((Pt.refl h).keepB ((Below.refl w.heap.size w).alloc (Nat.le_refl _) (Obj.cells #[.int .i64 xc, .bool false, .bool true, .bool true, .int .i64 xb, .int .i64 xn] 35)))
  have HX := Lib.hid (Blk.new w [.int .i64 xc, .bool false, .bool true, .bool true, .int .i64 xb, .int .i64 xn] 35)
  have HSL := Lib.hid hSl
  clear h hSl
  go_enter Try.func45, Try.ntmps45
  go_upto_region 1 with fail
  refine gen_world (fun W => Pt w W g S S s ∧ Blk W w.heap.size [.int .i64 xc, .bool false, .bool true, .bool true, .int .i64 xb, .int .i64 xn] 35) ⟨HT.out, HX.out⟩ ?_
  clear HT HX
  rintro w1 ⟨hT, hX⟩
  have HT := Lib.hid hT; have HX := Lib.hid hX; clear hT hX
  have HN0 := Lib.hid (fun (h : w.heap.size ∈ S) => (by have := HSL.out _ h; omega : False))
  have x0 := HX.out.cell 0
  have x1 := HX.out.cell 1
  have x2 := HX.out.cell 2
  have x3 := HX.out.cell 3
  have x4 := HX.out.cell 4
  have x5 := HX.out.cell 5
  simp only [List.getElem?_cons_zero, List.getElem?_cons_succ] at x0 x1 x2 x3 x4 x5
  obtain ⟨ve, vw, vs, vb, hF, hS⟩ := HT.out.in_
  have HF := Lib.hid hF; have HS := Lib.hid hS; have HB := Lib.hid hF.blk; clear hF hS
  have c7 := HB.out.cell 7
  have c8 := HB.out.cell 8
  have c17 := HB.out.cell 17
  have f6 := HB.out.free 6
  have f9 := HB.out.free 9
  have f16 := HB.out.free 16
  simp only [Fs.cells, List.getElem?_cons_zero, List.getElem?_cons_succ] at c7 c8 c17
  go_upto_region 2 with fail
  go_quiet (fail)
  refine post_any (fun W => Pt w W g S S s ∧ Blk W w.heap.size [.int .i64 xc, .bool false, .bool true, .bool true, .int .i64 xb, .int .i64 xn] 35 ∧ W.cell? ⟨g, 7, none⟩ = some (.int .i64 s.how)) ⟨HT.out.drewN _, HX.out.drewN _, c7⟩ ?_
  clear HF HS HB c7 c8 c17 f6 f9 f16
  clear HT HX x0 x1 x2 x3 x4 x5
  rintro w2 ⟨hT, hX, c7⟩
  have HT := Lib.hid hT; have HX := Lib.hid hX; clear hT hX
  have x0 := HX.out.cell 0
  have x1 := HX.out.cell 1
  have x2 := HX.out.cell 2
  have x3 := HX.out.cell 3
  have x4 := HX.out.cell 4
  have x5 := HX.out.cell 5
  simp only [List.getElem?_cons_zero, List.getElem?_cons_succ] at x0 x1 x2 x3 x4 x5
  go_wp2_with fail
  go_end0
  exact ⟨rfl, HT.out.to⟩
set_option maxHeartbeats 8000000 in
set_option maxRecDepth 100000 in
theorem start_dirty100 (xc xb xn : Int) (hh : s.how ≠ 2) (hSl : ∀ i ∈ S, i < w.heap.size) (h : FopIn w g S s) :
    Calls Try.prog 45 #[.pointer (some ⟨g, 0, none⟩), .agg #[.int .i64 xc, .bool true, .bool false, .bool false, .int .i64 xb, .int .i64 xn]] w fun e w' => e = .returned (.tuple #[]) ∧ FopTo w w' g S s := by
  have k2 : (s.how == 2) = false := by simpa using hh
  clear hh
  have HT := Lib.hid ((Pt.refl h).keepB ((Below.refl w.heap.size w).alloc (Nat.le_refl _) (Obj.cells #[.int .i64 xc, .bool true, .bool false, .bool false, .int .i64 xb, .int .i64 xn] 35)))
  have HX := Lib.hid (Blk.new w [.int .i64 xc, .bool true, .bool false, .bool false, .int .i64 xb, .int .i64 xn] 35)
  have HSL := Lib.hid hSl
  clear h hSl
  go_enter Try.func45, Try.ntmps45
  go_upto_region 1 with fail
  refine gen_world (fun W => Pt w W g S S s ∧ Blk W w.heap.size [.int .i64 xc, .bool true, .bool false, .bool false, .int .i64 xb, .int .i64 xn] 35) ⟨HT.out, HX.out⟩ ?_
  clear HT HX
  rintro w1 ⟨hT, hX⟩
  have HT := Lib.hid hT; have HX := Lib.hid hX; clear hT hX
  have HN0 := Lib.hid (fun (h : w.heap.size ∈ S) => (by have := HSL.out _ h; omega : False))
  have x0 := HX.out.cell 0
  have x1 := HX.out.cell 1
  have x2 := HX.out.cell 2
  have x3 := HX.out.cell 3
  have x4 := HX.out.cell 4
  have x5 := HX.out.cell 5
  simp only [List.getElem?_cons_zero, List.getElem?_cons_succ] at x0 x1 x2 x3 x4 x5
  obtain ⟨ve, vw, vs, vb, hF, hS⟩ := HT.out.in_
  have HF := Lib.hid hF; have HS := Lib.hid hS; have HB := Lib.hid hF.blk; clear hF hS
  have c7 := HB.out.cell 7
  have c8 := HB.out.cell 8
  have c17 := HB.out.cell 17
  have f6 := HB.out.free 6
  have f9 := HB.out.free 9
  have f16 := HB.out.free 16
  simp only [Fs.cells, List.getElem?_cons_zero, List.getElem?_cons_succ] at c7 c8 c17
  go_upto_region 2 with fail
  go_quiet (fail)
  refine post_any (fun W => Pt w W g S S s ∧ Blk W w.heap.size [.int .i64 xc, .bool true, .bool false, .bool false, .int .i64 xb, .int .i64 xn] 35 ∧ W.cell? ⟨g, 7, none⟩ = some (.int .i64 s.how)) ⟨HT.out.drewN _, HX.out.drewN _, c7⟩ ?_
  clear HF HS HB c7 c8 c17 f6 f9 f16
  clear HT HX x0 x1 x2 x3 x4 x5
  rintro w2 ⟨hT, hX, c7⟩
  have HT := Lib.hid hT; have HX := Lib.hid hX; clear hT hX
  have x0 := HX.out.cell 0
  have x1 := HX.out.cell 1
  have x2 := HX.out.cell 2
  have x3 := HX.out.cell 3
  have x4 := HX.out.cell 4
  have x5 := HX.out.cell 5
  simp only [List.getElem?_cons_zero, List.getElem?_cons_succ] at x0 x1 x2 x3 x4 x5
  go_wp2_with fail
  go_end0
  exact ⟨rfl, HT.out.to⟩
set_option maxHeartbeats 8000000 in
set_option maxRecDepth 100000 in
theorem start_dirty101 (xc xb xn : Int) (hh : s.how ≠ 2) (hSl : ∀ i ∈ S, i < w.heap.size) (h : FopIn w g S s) :
    Calls Try.prog 45 #[.pointer (some ⟨g, 0, none⟩), .agg #[.int .i64 xc, .bool true, .bool false, .bool true, .int .i64 xb, .int .i64 xn]] w fun e w' => e = .returned (.tuple #[]) ∧ FopTo w w' g S s := by
  have k2 : (s.how == 2) = false := by simpa using hh
  clear hh
  have HT := Lib.hid ((Pt.refl h).keepB ((Below.refl w.heap.size w).alloc (Nat.le_refl _) (Obj.cells #[.int .i64 xc, .bool true, .bool false, .bool true, .int .i64 xb, .int .i64 xn] 35)))
  have HX := Lib.hid (Blk.new w [.int .i64 xc, .bool true, .bool false, .bool true, .int .i64 xb, .int .i64 xn] 35)
  have HSL := Lib.hid hSl
  clear h hSl
  go_enter Try.func45, Try.ntmps45
  go_upto_region 1 with fail
  refine gen_world (fun W => Pt w W g S S s ∧ Blk W w.heap.size [.int .i64 xc, .bool true, .bool false, .bool true, .int .i64 xb, .int .i64 xn] 35) ⟨HT.out, HX.out⟩ ?_
  clear HT HX
  rintro w1 ⟨hT, hX⟩
  have HT := Lib.hid hT; have HX := Lib.hid hX; clear hT hX
  have HN0 := Lib.hid (fun (h : w.heap.size ∈ S) => (by have := HSL.out _ h; omega : False))
  have x0 := HX.out.cell 0
  have x1 := HX.out.cell 1
  have x2 := HX.out.cell 2
  have x3 := HX.out.cell 3
  have x4 := HX.out.cell 4
  have x5 := HX.out.cell 5
  simp only [List.getElem?_cons_zero, List.getElem?_cons_succ] at x0 x1 x2 x3 x4 x5
  obtain ⟨ve, vw, vs, vb, hF, hS⟩ := HT.out.in_
  have HF := Lib.hid hF; have HS := Lib.hid hS; have HB := Lib.hid hF.blk; clear hF hS
  have c7 := HB.out.cell 7
  have c8 := HB.out.cell 8
  have c17 := HB.out.cell 17
  have f6 := HB.out.free 6
  have f9 := HB.out.free 9
  have f16 := HB.out.free 16
  simp only [Fs.cells, List.getElem?_cons_zero, List.getElem?_cons_succ] at c7 c8 c17
  go_upto_region 2 with fail
  go_quiet (fail)
  refine post_any (fun W => Pt w W g S S s ∧ Blk W w.heap.size [.int .i64 xc, .bool true, .bool false, .bool true, .int .i64 xb, .int .i64 xn] 35 ∧ W.cell? ⟨g, 7, none⟩ = some (.int .i64 s.how)) ⟨HT.out.drewN _, HX.out.drewN _, c7⟩ ?_
  clear HF HS HB c7 c8 c17 f6 f9 f16
  clear HT HX x0 x1 x2 x3 x4 x5
  rintro w2 ⟨hT, hX, c7⟩
  have HT := Lib.hid hT; have HX := Lib.hid hX; clear hT hX
  have x0 := HX.out.cell 0
  have x1 := HX.out.cell 1
  have x2 := HX.out.cell 2
  have x3 := HX.out.cell 3
  have x4 := HX.out.cell 4
  have x5 := HX.out.cell 5
  simp only [List.getElem?_cons_zero, List.getElem?_cons_succ] at x0 x1 x2 x3 x4 x5
  go_wp2_with fail
  go_end0
  exact ⟨rfl, HT.out.to⟩
set_option maxHeartbeats 8000000 in
set_option maxRecDepth 100000 in
theorem start_dirty110 (xc xb xn : Int) (hh : s.how ≠ 2) (hSl : ∀ i ∈ S, i < w.heap.size) (h : FopIn w g S s) :
    Calls Try.prog 45 #[.pointer (some ⟨g, 0, none⟩), .agg #[.int .i64 xc, .bool true, .bool true, .bool false, .int .i64 xb, .int .i64 xn]] w fun e w' => e = .returned (.tuple #[]) ∧ FopTo w w' g S s := by
  have k2 : (s.how == 2) = false := by simpa using hh
  clear hh
  have HT := Lib.hid ((Pt.refl h).keepB ((Below.refl w.heap.size w).alloc (Nat.le_refl _) (Obj.cells #[.int .i64 xc, .bool true, .bool true, .bool false, .int .i64 xb, .int .i64 xn] 35)))
  have HX := Lib.hid (Blk.new w [.int .i64 xc, .bool true, .bool true, .bool false, .int .i64 xb, .int .i64 xn] 35)
  have HSL := Lib.hid hSl
  clear h hSl
  go_enter Try.func45, Try.ntmps45
  go_upto_region 1 with fail
  refine gen_world (fun W => Pt w W g S S s ∧ Blk W w.heap.size [.int .i64 xc, .bool true, .bool true, .bool false, .int .i64 xb, .int .i64 xn] 35) ⟨HT.out, HX.out⟩ ?_
  clear HT HX
  rintro w1 ⟨hT, hX⟩
  have HT := Lib.hid hT; have HX := Lib.hid hX; clear hT hX
  have HN0 := Lib.hid (fun (h : w.heap.size ∈ S) => (by have := HSL.out _ h; omega : False))
  have x0 := HX.out.cell 0
  have x1 := HX.out.cell 1
  have x2 := HX.out.cell 2
  have x3 := HX.out.cell 3
  have x4 := HX.out.cell 4
  have x5 := HX.out.cell 5
  simp only [List.getElem?_cons_zero, List.getElem?_cons_succ] at x0 x1 x2 x3 x4 x5
  obtain ⟨ve, vw, vs, vb, hF, hS⟩ := HT.out.in_
  have HF := Lib.hid hF; have HS := Lib.hid hS; have HB := Lib.hid hF.blk; clear hF hS
  have c7 := HB.out.cell 7
  have c8 := HB.out.cell 8
  have c17 := HB.out.cell 17
  have f6 := HB.out.free 6
  have f9 := HB.out.free 9
  have f16 := HB.out.free 16
  simp only [Fs.cells, List.getElem?_cons_zero, List.getElem?_cons_succ] at c7 c8 c17
  go_upto_region 2 with fail
  go_quiet (fail)
  refine post_any (fun W => Pt w W g S S s ∧ Blk W w.heap.size [.int .i64 xc, .bool true, .bool true, .bool false, .int .i64 xb, .int .i64 xn] 35 ∧ W.cell? ⟨g, 7, none⟩ = some (.int .i64 s.how)) ⟨HT.out.drewN _, HX.out.drewN _, c7⟩ ?_
  clear HF HS HB c7 c8 c17 f6 f9 f16
  clear HT HX x0 x1 x2 x3 x4 x5
  rintro w2 ⟨hT, hX, c7⟩
  have HT := Lib.hid hT; have HX := Lib.hid hX; clear hT hX
  have x0 := HX.out.cell 0
  have x1 := HX.out.cell 1
  have x2 := HX.out.cell 2
  have x3 := HX.out.cell 3
  have x4 := HX.out.cell 4
  have x5 := HX.out.cell 5
  simp only [List.getElem?_cons_zero, List.getElem?_cons_succ] at x0 x1 x2 x3 x4 x5
  go_wp2_with fail
  go_end0
  exact ⟨rfl, HT.out.to⟩
set_option maxHeartbeats 8000000 in
set_option maxRecDepth 100000 in
theorem start_dirty111 (xc xb xn : Int) (hh : s.how ≠ 2) (hSl : ∀ i ∈ S, i < w.heap.size) (h : FopIn w g S s) :
    Calls Try.prog 45 #[.pointer (some ⟨g, 0, none⟩), .agg #[.int .i64 xc, .bool true, .bool true, .bool true, .int .i64 xb, .int .i64 xn]] w fun e w' => e = .returned (.tuple #[]) ∧ FopTo w w' g S s := by
  have k2 : (s.how == 2) = false := by simpa using hh
  clear hh
  have HT := Lib.hid ((Pt.refl h).keepB ((Below.refl w.heap.size w).alloc (Nat.le_refl _) (Obj.cells #[.int .i64 xc, .bool true, .bool true, .bool true, .int .i64 xb, .int .i64 xn] 35)))
  have HX := Lib.hid (Blk.new w [.int .i64 xc, .bool true, .bool true, .bool true, .int .i64 xb, .int .i64 xn] 35)
  have HSL := Lib.hid hSl
  clear h hSl
  go_enter Try.func45, Try.ntmps45
  go_upto_region 1 with fail
  refine gen_world (fun W => Pt w W g S S s ∧ Blk W w.heap.size [.int .i64 xc, .bool true, .bool true, .bool true, .int .i64 xb, .int .i64 xn] 35) ⟨HT.out, HX.out⟩ ?_
  clear HT HX
  rintro w1 ⟨hT, hX⟩
  have HT := Lib.hid hT; have HX := Lib.hid hX; clear hT hX
  have HN0 := Lib.hid (fun (h : w.heap.size ∈ S) => (by have := HSL.out _ h; omega : False))
  have x0 := HX.out.cell 0
  have x1 := HX.out.cell 1
  have x2 := HX.out.cell 2
  have x3 := HX.out.cell 3
  have x4 := HX.out.cell 4
  have x5 := HX.out.cell 5
  simp only [List.getElem?_cons_zero, List.getElem?_cons_succ] at x0 x1 x2 x3 x4 x5
  obtain ⟨ve, vw, vs, vb, hF, hS⟩ := HT.out.in_
  have HF := Lib.hid hF; have HS := Lib.hid hS; have HB := Lib.hid hF.blk; clear hF hS
  have c7 := HB.out.cell 7
  have c8 := HB.out.cell 8
  have c17 := HB.out.cell 17
  have f6 := HB.out.free 6
  have f9 := HB.out.free 9
  have f16 := HB.out.free 16
  simp only [Fs.cells, List.getElem?_cons_zero, List.getElem?_cons_succ] at c7 c8 c17
  go_upto_region 2 with fail
  go_quiet (fail)
  refine post_any (fun W => Pt w W g S S s ∧ Blk W w.heap.size [.int .i64 xc, .bool true, .bool true, .bool true, .int .i64 xb, .int .i64 xn] 35 ∧ W.cell? ⟨g, 7, none⟩ = some (.int .i64 s.how)) ⟨HT.out.drewN _, HX.out.drewN _, c7⟩ ?_
  clear HF HS HB c7 c8 c17 f6 f9 f16
  clear HT HX x0 x1 x2 x3 x4 x5
  rintro w2 ⟨hT, hX, c7⟩
  have HT := Lib.hid hT; have HX := Lib.hid hX; clear hT hX
  have x0 := HX.out.cell 0
  have x1 := HX.out.cell 1
  have x2 := HX.out.cell 2
  have x3 := HX.out.cell 3
  have x4 := HX.out.cell 4
  have x5 := HX.out.cell 5
  simp only [List.getElem?_cons_zero, List.getElem?_cons_succ] at x0 x1 x2 x3 x4 x5
  go_wp2_with fail
  go_end0
  exact ⟨rfl, HT.out.to⟩
theorem start_none (xc xb xn : Int) (xl xw xr : Bool) (hh : s.how = 2 ∧ s.given = false ∨ s.how = 3 ∧ s.given = true ∨ s.how = 4 ∧ s.given = true) (hcl : ¬ (xl = false ∧ xw = false ∧ xr = false ∧ (s.how = 4 → xn = s.set))) (hlk : ¬ (xl = true ∧ s.how = 2)) (hSl : ∀ i ∈ S, i < w.heap.size) (h : FopIn w g S s) :
    Calls Try.prog 45 #[.pointer (some ⟨g, 0, none⟩), .agg #[.int .i64 xc, .bool xl, .bool xw, .bool xr, .int .i64 xb, .int .i64 xn]] w fun e w' => e = .returned (.tuple #[]) ∧ FopTo w w' g S s := by
  by_cases hf : xl = false ∧ xw = false ∧ xr = false
  · obtain ⟨rfl, rfl, rfl⟩ := hf
    rcases hh with ⟨e, -⟩ | ⟨e, -⟩ | ⟨e1, e2⟩
    · exact absurd ⟨rfl, rfl, rfl, fun h4 => by rw [h4] at e; cases e⟩ hcl
    · exact absurd ⟨rfl, rfl, rfl, fun h4 => by rw [h4] at e; cases e⟩ hcl
    · exact start_idle4 s g S w xc xb xn e1 e2 (fun h => hcl ⟨rfl, rfl, rfl, fun _ => h⟩) hSl h
  · by_cases h2 : s.how = 2
    · have : xl = false := by
        cases xl
        · rfl
        · exact absurd ⟨rfl, h2⟩ hlk
      subst this
      cases xw
      · cases xr
        · exact absurd ⟨rfl, rfl, rfl⟩ hf
        · exact start_dirty001 s g S w xc xb xn (.inr rfl) hSl h
      · cases xr
        · exact start_dirty010 s g S w xc xb xn (.inr rfl) hSl h
        · exact start_dirty011 s g S w xc xb xn (.inr rfl) hSl h
    · cases xl
      · cases xw
        · cases xr
          · exact absurd ⟨rfl, rfl, rfl⟩ hf
          · exact start_dirty001 s g S w xc xb xn (.inl h2) hSl h
        · cases xr
          · exact start_dirty010 s g S w xc xb xn (.inl h2) hSl h
          · exact start_dirty011 s g S w xc xb xn (.inl h2) hSl h
      · cases xw
        · cases xr
          · exact start_dirty100 s g S w xc xb xn h2 hSl h
          · exact start_dirty101 s g S w xc xb xn h2 hSl h
        · cases xr
          · exact start_dirty110 s g S w xc xb xn h2 hSl h
          · exact start_dirty111 s g S w xc xb xn h2 hSl h
end
end Go.Proofs.Ytbncejmohhejlaa