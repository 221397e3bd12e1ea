/- What is proved here: the walk of the reference's Take. -/
import Derived.Test.YtebgehmgjafblaaF5
import Derived.Test.YtebgehmgjafblaaT6
import Derived.Test.YtebgehmgjafblaaCalm
set_option linter.unusedVariables false
set_option linter.unusedSimpArgs false
namespace Go.Proofs.Ytebgehmgjafblaa
open Go.RowKit
/-- The reference's automaton holds the whole window. -/
def Fm.dbl (f : Fm) : Fm := ⟨f.craft, 2 * f.half, f.st⟩
theorem mod4 (b : Int) (h0 : 0 ≤ b) (h1 : b ≤ 3) : ∃ m, m = (b + 1) % 4 ∧ 0 ≤ m ∧ m ≤ 3 := ⟨_, rfl, by omega, by omega⟩
set_option maxHeartbeats 20000000 in
set_option maxRecDepth 100000 in
theorem rTake_bad (c ch : Int) (b : Bool) (k : Bool) (s : Int) (d : ByteArray) (cr h fc : Int) (lo wa re : Bool) (by_ nx : Int) (room : Bool) (g : Nat) (w : World) (hB : Blk w g (Fm.mk cr (2 * h) ⟨fc, lo, wa, re, by_, nx⟩).cells 78)
    (hg : (Tc.mk c ch b k s d).good = false) :
    Calls Try.prog 40 #[.pointer (some ⟨g, 0, none⟩), (Tc.mk c ch b k s d).val, .bool room] w fun e w' => e = .returned (.tuple #[.bool false, .int .i64 2]) ∧ Keep [g] w w' ∧ Blk w' g (Fm.mk cr (2 * h) ⟨fc, lo, wa, re, by_, nx⟩).cells 78 := by
  have hV := Valid_any (Tc.mk c ch b k s d)
  rw [hg] at hV
  clear hg
  simp only [Tc.val] at hV ⊢
  have HV := Lib.hid hV; clear hV
  have HK := Lib.hid ((Keep.refl [g] w).alloc (Obj.cells #[.int .i64 c, .int .i64 ch, .bool b, .bool k, .int .i64 s, .string d] 30))
  have HF := Lib.hid (hB.alloc (Obj.cells #[.int .i64 c, .int .i64 ch, .bool b, .bool k, .int .i64 s, .string d] 30))
  have HX := Lib.hid (Blk.new w [.int .i64 c, .int .i64 ch, .bool b, .bool k, .int .i64 s, .string d] 30)
  clear hB
  go_enter Try.func40, Try.ntmps40
  go_wp2_with fail
  refine gen_world (fun v => Keep [g] w v ∧ Blk v g (Fm.mk cr (2 * h) ⟨fc, lo, wa, re, by_, nx⟩).cells 78 ∧ Blk v w.heap.size [.int .i64 c, .int .i64 ch, .bool b, .bool k, .int .i64 s, .string d] 30) ⟨HK.out, HF.out, HX.out⟩ ?_
  clear HK HF HX
  rintro v ⟨hK, hF, hX⟩
  have HK := Lib.hid hK; have HF := Lib.hid hF; have HX := Lib.hid hX; clear hK hF hX
  have x0 := cl_blk HX.out 0
  have x1 := cl_blk HX.out 1
  have x2 := cl_blk HX.out 2
  have x3 := cl_blk HX.out 3
  have x4 := cl_blk HX.out 4
  have x5 := cl_blk HX.out 5
  simp only [List.getElem?_cons_zero, List.getElem?_cons_succ] at x0 x1 x2 x3 x4 x5
  refine region_calm v.heap.size (by kernel_rfl) (by kernel_rfl) ?_
  repeat (go_big_quiet_step ((go_at_call 58; exact cl_call _ (Nat.le_refl _) (HV.out _))))
  refine wpQuiet_nil ?_
  intro v1 hL
  replace HK := Lib.hid (HK.out.below hL HK.out.size)
  replace HF := Lib.hid (HF.out.below hL HF.out.lt)
  replace HX := Lib.hid (HX.out.below hL HX.out.lt)
  clear hL x0 x1 x2 x3 x4 x5
  clear HX
  go_wp2_with fail
  go_ret2
  exact ⟨rfl, HK.out, HF.out⟩
set_option maxHeartbeats 20000000 in
set_option maxRecDepth 100000 in
theorem rTake_craft (c ch : Int) (b : Bool) (k : Bool) (s : Int) (d : ByteArray) (cr h fc : Int) (lo wa re : Bool) (by_ nx : Int) (room : Bool) (g : Nat) (w : World) (hB : Blk w g (Fm.mk cr (2 * h) ⟨fc, lo, wa, re, by_, nx⟩).cells 78)
    (hg : (Tc.mk c ch b k s d).good = true) (hc1 : (c != cr) = true) :
    Calls Try.prog 40 #[.pointer (some ⟨g, 0, none⟩), (Tc.mk c ch b k s d).val, .bool room] w fun e w' => e = .returned (.tuple #[.bool false, .int .i64 2]) ∧ Keep [g] w w' ∧ Blk w' g (Fm.mk cr (2 * h) ⟨fc, lo, wa, re, by_, nx⟩).cells 78 := by
  have hV := Valid_any (Tc.mk c ch b k s d)
  rw [hg] at hV
  clear hg
  simp only [Tc.val] at hV ⊢
  have HV := Lib.hid hV; clear hV
  have HK := Lib.hid ((Keep.refl [g] w).alloc (Obj.cells #[.int .i64 c, .int .i64 ch, .bool b, .bool k, .int .i64 s, .string d] 30))
  have HF := Lib.hid (hB.alloc (Obj.cells #[.int .i64 c, .int .i64 ch, .bool b, .bool k, .int .i64 s, .string d] 30))
  have HX := Lib.hid (Blk.new w [.int .i64 c, .int .i64 ch, .bool b, .bool k, .int .i64 s, .string d] 30)
  clear hB
  go_enter Try.func40, Try.ntmps40
  go_wp2_with fail
  refine gen_world (fun v => Keep [g] w v ∧ Blk v g (Fm.mk cr (2 * h) ⟨fc, lo, wa, re, by_, nx⟩).cells 78 ∧ Blk v w.heap.size [.int .i64 c, .int .i64 ch, .bool b, .bool k, .int .i64 s, .string d] 30) ⟨HK.out, HF.out, HX.out⟩ ?_
  clear HK HF HX
  rintro v ⟨hK, hF, hX⟩
  have HK := Lib.hid hK; have HF := Lib.hid hF; have HX := Lib.hid hX; clear hK hF hX
  have x0 := cl_blk HX.out 0
  have x1 := cl_blk HX.out 1
  have x2 := cl_blk HX.out 2
  have x3 := cl_blk HX.out 3
  have x4 := cl_blk HX.out 4
  have x5 := cl_blk HX.out 5
  simp only [List.getElem?_cons_zero, List.getElem?_cons_succ] at x0 x1 x2 x3 x4 x5
  have c0 := cl_blk HF.out 0
  have c2 := cl_blk HF.out 2
  simp only [Fm.cells, List.getElem?_cons_zero, List.getElem?_cons_succ] at c0 c2
  refine region_calm v.heap.size (by kernel_rfl) (by kernel_rfl) ?_
  repeat (go_big_quiet_step ((go_at_call 58; exact cl_call _ (Nat.le_refl _) (HV.out _))))
  refine wpQuiet_nil ?_
  intro v1 hL
  replace HK := Lib.hid (HK.out.below hL HK.out.size)
  replace HF := Lib.hid (HF.out.below hL HF.out.lt)
  replace HX := Lib.hid (HX.out.below hL HX.out.lt)
  clear hL x0 x1 x2 x3 x4 x5 c0 c2
  clear HX
  go_wp2_with fail
  go_ret2
  exact ⟨rfl, HK.out, HF.out⟩
set_option maxHeartbeats 20000000 in
set_option maxRecDepth 100000 in
theorem rTake_chan (c ch : Int) (b : Bool) (k : Bool) (s : Int) (d : ByteArray) (cr h fc : Int) (lo wa re : Bool) (by_ nx : Int) (room : Bool) (g : Nat) (w : World) (hB : Blk w g (Fm.mk cr (2 * h) ⟨fc, lo, wa, re, by_, nx⟩).cells 78)
    (hg : (Tc.mk c ch b k s d).good = true) (hc1 : (c != cr) = false) (hd1 : (ch != fc) = true) :
    Calls Try.prog 40 #[.pointer (some ⟨g, 0, none⟩), (Tc.mk c ch b k s d).val, .bool room] w fun e w' => e = .returned (.tuple #[.bool false, .int .i64 2]) ∧ Keep [g] w w' ∧ Blk w' g (Fm.mk cr (2 * h) ⟨fc, lo, wa, re, by_, nx⟩).cells 78 := by
  have hV := Valid_any (Tc.mk c ch b k s d)
  rw [hg] at hV
  clear hg
  simp only [Tc.val] at hV ⊢
  have HV := Lib.hid hV; clear hV
  have HK := Lib.hid ((Keep.refl [g] w).alloc (Obj.cells #[.int .i64 c, .int .i64 ch, .bool b, .bool k, .int .i64 s, .string d] 30))
  have HF := Lib.hid (hB.alloc (Obj.cells #[.int .i64 c, .int .i64 ch, .bool b, .bool k, .int .i64 s, .string d] 30))
  have HX := Lib.hid (Blk.new w [.int .i64 c, .int .i64 ch, .bool b, .bool k, .int .i64 s, .string d] 30)
  clear hB
  go_enter Try.func40, Try.ntmps40
  go_wp2_with fail
  refine gen_world (fun v => Keep [g] w v ∧ Blk v g (Fm.mk cr (2 * h) ⟨fc, lo, wa, re, by_, nx⟩).cells 78 ∧ Blk v w.heap.size [.int .i64 c, .int .i64 ch, .bool b, .bool k, .int .i64 s, .string d] 30) ⟨HK.out, HF.out, HX.out⟩ ?_
  clear HK HF HX
  rintro v ⟨hK, hF, hX⟩
  have HK := Lib.hid hK; have HF := Lib.hid hF; have HX := Lib.hid hX; clear hK hF hX
  have x0 := cl_blk HX.out 0
  have x1 := cl_blk HX.out 1
  have x2 := cl_blk HX.out 2
  have x3 := cl_blk HX.out 3
  have x4 := cl_blk HX.out 4
  have x5 := cl_blk HX.out 5
  simp only [List.getElem?_cons_zero, List.getElem?_cons_succ] at x0 x1 x2 x3 x4 x5
  have c0 := cl_blk HF.out 0
  have c2 := cl_blk HF.out 2
  simp only [Fm.cells, List.getElem?_cons_zero, List.getElem?_cons_succ] at c0 c2
  refine region_calm v.heap.size (by kernel_rfl) (by kernel_rfl) ?_
  repeat (go_big_quiet_step ((go_at_call 58; exact cl_call _ (Nat.le_refl _) (HV.out _))))
  refine wpQuiet_nil ?_
  intro v1 hL
  replace HK := Lib.hid (HK.out.below hL HK.out.size)
  replace HF := Lib.hid (HF.out.below hL HF.out.lt)
  replace HX := Lib.hid (HX.out.below hL HX.out.lt)
  clear hL x0 x1 x2 x3 x4 x5 c0 c2
  clear HX
  go_wp2_with fail
  go_ret2
  exact ⟨rfl, HK.out, HF.out⟩
set_option maxHeartbeats 20000000 in
set_option maxRecDepth 100000 in
theorem rTake_form (c ch : Int) (b : Bool) (s : Int) (d : ByteArray) (cr h fc : Int) (lo wa re : Bool) (by_ nx : Int) (room : Bool) (g : Nat) (w : World) (un : Bool) (nn : Int) (k1 : 1 ≤ h) (k2 : h ≤ 127) (k3 : 0 ≤ by_) (k4 : by_ ≤ 3) (k5 : 0 ≤ nx) (k6 : nx ≤ 255) (hB : Blk w g (Fm.mk cr (2 * h) ⟨fc, lo, wa, re, by_, nx⟩).cells 78) (hgd : (Tc.mk c ch b true s d).good = true) (hc1 : (c != cr) = false) (hd1 : (ch != fc) = false) (hctl : (Tc.mk c ch b true s d).ctl3 = (un, nn, false)) :
    Calls Try.prog 40 #[.pointer (some ⟨g, 0, none⟩), (Tc.mk c ch b true s d).val, .bool room] w fun e w' => e = .returned (.tuple #[.bool false, .int .i64 6]) ∧ Keep [g] w w' ∧ Blk w' g (Fm.mk cr (2 * h) ⟨fc, lo, wa, re, by_, nx⟩).cells 78 := by
  have hV := Valid_any (Tc.mk c ch b true s d)
  rw [hgd] at hV
  have hct := rControl_any (Tc.mk c ch b true s d)
  unfold Tc.ctlV out3 at hct
  rw [hctl] at hct
  have hlt : g < w.heap.size := hB.lt
  obtain ⟨m, hm, hm0, hm3⟩ := mod4 by_ k3 k4
  simp only [Tc.val] at hV hct ⊢
  have HCT := Lib.hid hct
  have HM := Lib.hid hm
  clear hct hgd hm
  have HV := Lib.hid hV; clear hV
  have HK := Lib.hid ((Keep.refl [g] w).alloc (Obj.cells #[.int .i64 c, .int .i64 ch, .bool b, .bool true, .int .i64 s, .string d] 30))
  have HF := Lib.hid (hB.alloc (Obj.cells #[.int .i64 c, .int .i64 ch, .bool b, .bool true, .int .i64 s, .string d] 30))
  have HX := Lib.hid (Blk.new w [.int .i64 c, .int .i64 ch, .bool b, .bool true, .int .i64 s, .string d] 30)
  clear hB
  go_enter Try.func40, Try.ntmps40
  go_wp2_with fail
  refine gen_world (fun v => Keep [g] w v ∧ Blk v g (Fm.mk cr (2 * h) ⟨fc, lo, wa, re, by_, nx⟩).cells 78 ∧ Blk v w.heap.size [.int .i64 c, .int .i64 ch, .bool b, .bool true, .int .i64 s, .string d] 30) ⟨HK.out, HF.out, HX.out⟩ ?_
  clear HK HF HX
  rintro v ⟨hK, hF, hX⟩
  have HK := Lib.hid hK; have HF := Lib.hid hF; have HX := Lib.hid hX; clear hK hF hX
  have x0 := cl_blk HX.out 0
  have x1 := cl_blk HX.out 1
  have x2 := cl_blk HX.out 2
  have x3 := cl_blk HX.out 3
  have x4 := cl_blk HX.out 4
  have x5 := cl_blk HX.out 5
  simp only [List.getElem?_cons_zero, List.getElem?_cons_succ] at x0 x1 x2 x3 x4 x5
  have c0 := cl_blk HF.out 0
  have c2 := cl_blk HF.out 2
  simp only [Fm.cells, List.getElem?_cons_zero, List.getElem?_cons_succ] at c0 c2
  refine region_calm v.heap.size (by kernel_rfl) (by kernel_rfl) ?_
  repeat (go_big_quiet_step ((go_at_call 58; exact cl_call _ (Nat.le_refl _) (HV.out _))))
  refine wpQuiet_nil ?_
  intro v1 hL
  replace HK := Lib.hid (HK.out.below hL HK.out.size)
  replace HF := Lib.hid (HF.out.below hL HF.out.lt)
  replace HX := Lib.hid (HX.out.below hL HX.out.lt)
  clear hL x0 x1 x2 x3 x4 x5 c0 c2
  have x0 := HX.out.cell 0
  have x1 := HX.out.cell 1
  have x2 := HX.out.cell 2
  have x3 := HX.out.cell 3
  have x4 := HX.out.cell 4
  have x5 := HX.out.cell 5
  simp only [List.getElem?_cons_zero, List.getElem?_cons_succ] at x0 x1 x2 x3 x4 x5
  go_wp2_with fail
  refine (HCT.out _).mono ?_
  rintro e v2 ⟨rfl, hL⟩
  clear x0 x1 x2 x3 x4 x5
  replace HK := Lib.hid (HK.out.below hL HK.out.size)
  replace HF := Lib.hid (HF.out.below hL HF.out.lt)
  replace HX := Lib.hid (HX.out.below hL HX.out.lt)
  clear hL
  have x0 := HX.out.cell 0
  have x1 := HX.out.cell 1
  have x2 := HX.out.cell 2
  have x3 := HX.out.cell 3
  have x4 := HX.out.cell 4
  have x5 := HX.out.cell 5
  simp only [List.getElem?_cons_zero, List.getElem?_cons_succ] at x0 x1 x2 x3 x4 x5
  have c0 := HF.out.cell 0
  have c1 := HF.out.cell 1
  have c2 := HF.out.cell 2
  have c3 := HF.out.cell 3
  have c4 := HF.out.cell 4
  have c5 := HF.out.cell 5
  have c6 := HF.out.cell 6
  have c7 := HF.out.cell 7
  simp only [Fm.cells, List.getElem?_cons_zero, List.getElem?_cons_succ] at c0 c1 c2 c3 c4 c5 c6 c7
  have f0 := HF.out.free 0
  have f1 := HF.out.free 1
  have f2 := HF.out.free 2
  have f3 := HF.out.free 3
  have f4 := HF.out.free 4
  have f5 := HF.out.free 5
  have f6 := HF.out.free 6
  have f7 := HF.out.free 7
  have e1 : by_ + 1 ≤ 4 := by omega
  go_wp2_with fail
  go_ret2
  exact ⟨rfl, HK.out, HF.out⟩
set_option maxHeartbeats 20000000 in
set_option maxRecDepth 100000 in
theorem rTake_unlock (c ch : Int) (s : Int) (d : ByteArray) (cr h fc : Int) (lo wa re : Bool) (by_ nx : Int) (room : Bool) (g : Nat) (w : World) (nn : Int) (k1 : 1 ≤ h) (k2 : h ≤ 127) (k3 : 0 ≤ by_) (k4 : by_ ≤ 3) (k5 : 0 ≤ nx) (k6 : nx ≤ 255) (hB : Blk w g (Fm.mk cr (2 * h) ⟨fc, lo, wa, re, by_, nx⟩).cells 78) (hgd : (Tc.mk c ch true true s d).good = true) (hc1 : (c != cr) = false) (hd1 : (ch != fc) = false) (hctl : (Tc.mk c ch true true s d).ctl3 = (true, nn, true)) :
    Calls Try.prog 40 #[.pointer (some ⟨g, 0, none⟩), (Tc.mk c ch true true s d).val, .bool room] w fun e w' => e = .returned (.tuple #[.bool false, .int .i64 0]) ∧ Keep [g] w w' ∧ Blk w' g (Fm.mk cr (2 * h) ⟨fc, false, false, false, (by_ + 1) % 4, nx⟩).cells 78 := by
  have hV := Valid_any (Tc.mk c ch true true s d)
  rw [hgd] at hV
  have hct := rControl_any (Tc.mk c ch true true s d)
  unfold Tc.ctlV out3 at hct
  rw [hctl] at hct
  have hlt : g < w.heap.size := hB.lt
  obtain ⟨m, hm, hm0, hm3⟩ := mod4 by_ k3 k4
  simp only [Tc.val] at hV hct ⊢
  have HCT := Lib.hid hct
  have HM := Lib.hid hm
  clear hct hgd hm
  have HV := Lib.hid hV; clear hV
  have HK := Lib.hid ((Keep.refl [g] w).alloc (Obj.cells #[.int .i64 c, .int .i64 ch, .bool true, .bool true, .int .i64 s, .string d] 30))
  have HF := Lib.hid (hB.alloc (Obj.cells #[.int .i64 c, .int .i64 ch, .bool true, .bool true, .int .i64 s, .string d] 30))
  have HX := Lib.hid (Blk.new w [.int .i64 c, .int .i64 ch, .bool true, .bool true, .int .i64 s, .string d] 30)
  clear hB
  go_enter Try.func40, Try.ntmps40
  go_wp2_with fail
  refine gen_world (fun v => Keep [g] w v ∧ Blk v g (Fm.mk cr (2 * h) ⟨fc, lo, wa, re, by_, nx⟩).cells 78 ∧ Blk v w.heap.size [.int .i64 c, .int .i64 ch, .bool true, .bool true, .int .i64 s, .string d] 30) ⟨HK.out, HF.out, HX.out⟩ ?_
  clear HK HF HX
  rintro v ⟨hK, hF, hX⟩
  have HK := Lib.hid hK; have HF := Lib.hid hF; have HX := Lib.hid hX; clear hK hF hX
  have x0 := cl_blk HX.out 0
  have x1 := cl_blk HX.out 1
  have x2 := cl_blk HX.out 2
  have x3 := cl_blk HX.out 3
  have x4 := cl_blk HX.out 4
  have x5 := cl_blk HX.out 5
  simp only [List.getElem?_cons_zero, List.getElem?_cons_succ] at x0 x1 x2 x3 x4 x5
  have c0 := cl_blk HF.out 0
  have c2 := cl_blk HF.out 2
  simp only [Fm.cells, List.getElem?_cons_zero, List.getElem?_cons_succ] at c0 c2
  refine region_calm v.heap.size (by kernel_rfl) (by kernel_rfl) ?_
  repeat (go_big_quiet_step ((go_at_call 58; exact cl_call _ (Nat.le_refl _) (HV.out _))))
  refine wpQuiet_nil ?_
  intro v1 hL
  replace HK := Lib.hid (HK.out.below hL HK.out.size)
  replace HF := Lib.hid (HF.out.below hL HF.out.lt)
  replace HX := Lib.hid (HX.out.below hL HX.out.lt)
  clear hL x0 x1 x2 x3 x4 x5 c0 c2
  have x0 := HX.out.cell 0
  have x1 := HX.out.cell 1
  have x2 := HX.out.cell 2
  have x3 := HX.out.cell 3
  have x4 := HX.out.cell 4
  have x5 := HX.out.cell 5
  simp only [List.getElem?_cons_zero, List.getElem?_cons_succ] at x0 x1 x2 x3 x4 x5
  go_wp2_with fail
  refine (HCT.out _).mono ?_
  rintro e v2 ⟨rfl, hL⟩
  clear x0 x1 x2 x3 x4 x5
  replace HK := Lib.hid (HK.out.below hL HK.out.size)
  replace HF := Lib.hid (HF.out.below hL HF.out.lt)
  replace HX := Lib.hid (HX.out.below hL HX.out.lt)
  clear hL
  have x0 := HX.out.cell 0
  have x1 := HX.out.cell 1
  have x2 := HX.out.cell 2
  have x3 := HX.out.cell 3
  have x4 := HX.out.cell 4
  have x5 := HX.out.cell 5
  simp only [List.getElem?_cons_zero, List.getElem?_cons_succ] at x0 x1 x2 x3 x4 x5
  have c0 := HF.out.cell 0
  have c1 := HF.out.cell 1
  have c2 := HF.out.cell 2
  have c3 := HF.out.cell 3
  have c4 := HF.out.cell 4
  have c5 := HF.out.cell 5
  have c6 := HF.out.cell 6
  have c7 := HF.out.cell 7
  simp only [Fm.cells, List.getElem?_cons_zero, List.getElem?_cons_succ] at c0 c1 c2 c3 c4 c5 c6 c7
  have f0 := HF.out.free 0
  have f1 := HF.out.free 1
  have f2 := HF.out.free 2
  have f3 := HF.out.free 3
  have f4 := HF.out.free 4
  have f5 := HF.out.free 5
  have f6 := HF.out.free 6
  have f7 := HF.out.free 7
  have e1 : by_ + 1 ≤ 4 := by omega
  go_wp2_with fail
  go_ret2
  exact ⟨rfl, ((((HK.out.setCell (.inl (by simp)) _).setCell (.inl (by simp)) _).setCell (.inl (by simp)) _).setCell (.inl (by simp)) _), ((((HF.out.set 6 _).set 3 _).set 4 _).set 5 _)⟩
set_option maxHeartbeats 20000000 in
set_option maxRecDepth 100000 in
theorem rTake_locked (c ch : Int) (s : Int) (d : ByteArray) (cr h fc : Int) (wa re : Bool) (by_ nx : Int) (room : Bool) (g : Nat) (w : World) (nn : Int) (k1 : 1 ≤ h) (k2 : h ≤ 127) (k3 : 0 ≤ by_) (k4 : by_ ≤ 3) (k5 : 0 ≤ nx) (k6 : nx ≤ 255) (hB : Blk w g (Fm.mk cr (2 * h) ⟨fc, true, wa, re, by_, nx⟩).cells 78) (hgd : (Tc.mk c ch true true s d).good = true) (hc1 : (c != cr) = false) (hd1 : (ch != fc) = false) (hctl : (Tc.mk c ch true true s d).ctl3 = (false, nn, true)) :
    Calls Try.prog 40 #[.pointer (some ⟨g, 0, none⟩), (Tc.mk c ch true true s d).val, .bool room] w fun e w' => e = .returned (.tuple #[.bool false, .int .i64 0]) ∧ Keep [g] w w' ∧ Blk w' g (Fm.mk cr (2 * h) ⟨fc, true, wa, re, (by_ + 1) % 4, nx⟩).cells 78 := by
  have hV := Valid_any (Tc.mk c ch true true s d)
  rw [hgd] at hV
  have hct := rControl_any (Tc.mk c ch true true s d)
  unfold Tc.ctlV out3 at hct
  rw [hctl] at hct
  have hlt : g < w.heap.size := hB.lt
  obtain ⟨m, hm, hm0, hm3⟩ := mod4 by_ k3 k4
  simp only [Tc.val] at hV hct ⊢
  have HCT := Lib.hid hct
  have HM := Lib.hid hm
  clear hct hgd hm
  have HV := Lib.hid hV; clear hV
  have HK := Lib.hid ((Keep.refl [g] w).alloc (Obj.cells #[.int .i64 c, .int .i64 ch, .bool true, .bool true, .int .i64 s, .string d] 30))
  have HF := Lib.hid (hB.alloc (Obj.cells #[.int .i64 c, .int .i64 ch, .bool true, .bool true, .int .i64 s, .string d] 30))
  have HX := Lib.hid (Blk.new w [.int .i64 c, .int .i64 ch, .bool true, .bool true, .int .i64 s, .string d] 30)
  clear hB
  go_enter Try.func40, Try.ntmps40
  go_wp2_with fail
  refine gen_world (fun v => Keep [g] w v ∧ Blk v g (Fm.mk cr (2 * h) ⟨fc, true, wa, re, by_, nx⟩).cells 78 ∧ Blk v w.heap.size [.int .i64 c, .int .i64 ch, .bool true, .bool true, .int .i64 s, .string d] 30) ⟨HK.out, HF.out, HX.out⟩ ?_
  clear HK HF HX
  rintro v ⟨hK, hF, hX⟩
  have HK := Lib.hid hK; have HF := Lib.hid hF; have HX := Lib.hid hX; clear hK hF hX
  have x0 := cl_blk HX.out 0
  have x1 := cl_blk HX.out 1
  have x2 := cl_blk HX.out 2
  have x3 := cl_blk HX.out 3
  have x4 := cl_blk HX.out 4
  have x5 := cl_blk HX.out 5
  simp only [List.getElem?_cons_zero, List.getElem?_cons_succ] at x0 x1 x2 x3 x4 x5
  have c0 := cl_blk HF.out 0
  have c2 := cl_blk HF.out 2
  simp only [Fm.cells, List.getElem?_cons_zero, List.getElem?_cons_succ] at c0 c2
  refine region_calm v.heap.size (by kernel_rfl) (by kernel_rfl) ?_
  repeat (go_big_quiet_step ((go_at_call 58; exact cl_call _ (Nat.le_refl _) (HV.out _))))
  refine wpQuiet_nil ?_
  intro v1 hL
  replace HK := Lib.hid (HK.out.below hL HK.out.size)
  replace HF := Lib.hid (HF.out.below hL HF.out.lt)
  replace HX := Lib.hid (HX.out.below hL HX.out.lt)
  clear hL x0 x1 x2 x3 x4 x5 c0 c2
  have x0 := HX.out.cell 0
  have x1 := HX.out.cell 1
  have x2 := HX.out.cell 2
  have x3 := HX.out.cell 3
  have x4 := HX.out.cell 4
  have x5 := HX.out.cell 5
  simp only [List.getElem?_cons_zero, List.getElem?_cons_succ] at x0 x1 x2 x3 x4 x5
  go_wp2_with fail
  refine (HCT.out _).mono ?_
  rintro e v2 ⟨rfl, hL⟩
  clear x0 x1 x2 x3 x4 x5
  replace HK := Lib.hid (HK.out.below hL HK.out.size)
  replace HF := Lib.hid (HF.out.below hL HF.out.lt)
  replace HX := Lib.hid (HX.out.below hL HX.out.lt)
  clear hL
  have x0 := HX.out.cell 0
  have x1 := HX.out.cell 1
  have x2 := HX.out.cell 2
  have x3 := HX.out.cell 3
  have x4 := HX.out.cell 4
  have x5 := HX.out.cell 5
  simp only [List.getElem?_cons_zero, List.getElem?_cons_succ] at x0 x1 x2 x3 x4 x5
  have c0 := HF.out.cell 0
  have c1 := HF.out.cell 1
  have c2 := HF.out.cell 2
  have c3 := HF.out.cell 3
  have c4 := HF.out.cell 4
  have c5 := HF.out.cell 5
  have c6 := HF.out.cell 6
  have c7 := HF.out.cell 7
  simp only [Fm.cells, List.getElem?_cons_zero, List.getElem?_cons_succ] at c0 c1 c2 c3 c4 c5 c6 c7
  have f0 := HF.out.free 0
  have f1 := HF.out.free 1
  have f2 := HF.out.free 2
  have f3 := HF.out.free 3
  have f4 := HF.out.free 4
  have f5 := HF.out.free 5
  have f6 := HF.out.free 6
  have f7 := HF.out.free 7
  have e1 : by_ + 1 ≤ 4 := by omega
  go_wp2_with fail
  go_ret2
  exact ⟨rfl, (HK.out.setCell (.inl (by simp)) _), (HF.out.set 6 _)⟩
set_option maxHeartbeats 20000000 in
set_option maxRecDepth 100000 in
theorem rTake_set (c ch : Int) (s : Int) (d : ByteArray) (cr h fc : Int) (wa re : Bool) (by_ nx : Int) (room : Bool) (g : Nat) (w : World) (nn : Int) (k1 : 1 ≤ h) (k2 : h ≤ 127) (k3 : 0 ≤ by_) (k4 : by_ ≤ 3) (k5 : 0 ≤ nx) (k6 : nx ≤ 255) (hB : Blk w g (Fm.mk cr (2 * h) ⟨fc, false, wa, re, by_, nx⟩).cells 78) (hgd : (Tc.mk c ch true true s d).good = true) (hc1 : (c != cr) = false) (hd1 : (ch != fc) = false) (hctl : (Tc.mk c ch true true s d).ctl3 = (false, nn, true)) :
    Calls Try.prog 40 #[.pointer (some ⟨g, 0, none⟩), (Tc.mk c ch true true s d).val, .bool room] w fun e w' => e = .returned (.tuple #[.bool false, .int .i64 0]) ∧ Keep [g] w w' ∧ Blk w' g (Fm.mk cr (2 * h) ⟨fc, false, false, false, (by_ + 1) % 4, nn⟩).cells 78 := by
  have hV := Valid_any (Tc.mk c ch true true s d)
  rw [hgd] at hV
  have hct := rControl_any (Tc.mk c ch true true s d)
  unfold Tc.ctlV out3 at hct
  rw [hctl] at hct
  have hlt : g < w.heap.size := hB.lt
  obtain ⟨m, hm, hm0, hm3⟩ := mod4 by_ k3 k4
  simp only [Tc.val] at hV hct ⊢
  have HCT := Lib.hid hct
  have HM := Lib.hid hm
  clear hct hgd hm
  have HV := Lib.hid hV; clear hV
  have HK := Lib.hid ((Keep.refl [g] w).alloc (Obj.cells #[.int .i64 c, .int .i64 ch, .bool true, .bool true, .int .i64 s, .string d] 30))
  have HF := Lib.hid (hB.alloc (Obj.cells #[.int .i64 c, .int .i64 ch, .bool true, .bool true, .int .i64 s, .string d] 30))
  have HX := Lib.hid (Blk.new w [.int .i64 c, .int .i64 ch, .bool true, .bool true, .int .i64 s, .string d] 30)
  clear hB
  go_enter Try.func40, Try.ntmps40
  go_wp2_with fail
  refine gen_world (fun v => Keep [g] w v ∧ Blk v g (Fm.mk cr (2 * h) ⟨fc, false, wa, re, by_, nx⟩).cells 78 ∧ Blk v w.heap.size [.int .i64 c, .int .i64 ch, .bool true, .bool true, .int .i64 s, .string d] 30) ⟨HK.out, HF.out, HX.out⟩ ?_
  clear HK HF HX
  rintro v ⟨hK, hF, hX⟩
  have HK := Lib.hid hK; have HF := Lib.hid hF; have HX := Lib.hid hX; clear hK hF hX
  have x0 := cl_blk HX.out 0
  have x1 := cl_blk HX.out 1
  have x2 := cl_blk HX.out 2
  have x3 := cl_blk HX.out 3
  have x4 := cl_blk HX.out 4
  have x5 := cl_blk HX.out 5
  simp only [List.getElem?_cons_zero, List.getElem?_cons_succ] at x0 x1 x2 x3 x4 x5
  have c0 := cl_blk HF.out 0
  have c2 := cl_blk HF.out 2
  simp only [Fm.cells, List.getElem?_cons_zero, List.getElem?_cons_succ] at c0 c2
  refine region_calm v.heap.size (by kernel_rfl) (by kernel_rfl) ?_
  repeat (go_big_quiet_step ((go_at_call 58; exact cl_call _ (Nat.le_refl _) (HV.out _))))
  refine wpQuiet_nil ?_
  intro v1 hL
  replace HK := Lib.hid (HK.out.below hL HK.out.size)
  replace HF := Lib.hid (HF.out.below hL HF.out.lt)
  replace HX := Lib.hid (HX.out.below hL HX.out.lt)
  clear hL x0 x1 x2 x3 x4 x5 c0 c2
  have x0 := HX.out.cell 0
  have x1 := HX.out.cell 1
  have x2 := HX.out.cell 2
  have x3 := HX.out.cell 3
  have x4 := HX.out.cell 4
  have x5 := HX.out.cell 5
  simp only [List.getElem?_cons_zero, List.getElem?_cons_succ] at x0 x1 x2 x3 x4 x5
  go_wp2_with fail
  refine (HCT.out _).mono ?_
  rintro e v2 ⟨rfl, hL⟩
  clear x0 x1 x2 x3 x4 x5
  replace HK := Lib.hid (HK.out.below hL HK.out.size)
  replace HF := Lib.hid (HF.out.below hL HF.out.lt)
  replace HX := Lib.hid (HX.out.below hL HX.out.lt)
  clear hL
  have x0 := HX.out.cell 0
  have x1 := HX.out.cell 1
  have x2 := HX.out.cell 2
  have x3 := HX.out.cell 3
  have x4 := HX.out.cell 4
  have x5 := HX.out.cell 5
  simp only [List.getElem?_cons_zero, List.getElem?_cons_succ] at x0 x1 x2 x3 x4 x5
  have c0 := HF.out.cell 0
  have c1 := HF.out.cell 1
  have c2 := HF.out.cell 2
  have c3 := HF.out.cell 3
  have c4 := HF.out.cell 4
  have c5 := HF.out.cell 5
  have c6 := HF.out.cell 6
  have c7 := HF.out.cell 7
  simp only [Fm.cells, List.getElem?_cons_zero, List.getElem?_cons_succ] at c0 c1 c2 c3 c4 c5 c6 c7
  have f0 := HF.out.free 0
  have f1 := HF.out.free 1
  have f2 := HF.out.free 2
  have f3 := HF.out.free 3
  have f4 := HF.out.free 4
  have f5 := HF.out.free 5
  have f6 := HF.out.free 6
  have f7 := HF.out.free 7
  have e1 : by_ + 1 ≤ 4 := by omega
  go_wp2_with fail
  go_ret2
  exact ⟨rfl, ((((HK.out.setCell (.inl (by simp)) _).setCell (.inl (by simp)) _).setCell (.inl (by simp)) _).setCell (.inl (by simp)) _), ((((HF.out.set 6 _).set 7 _).set 4 _).set 5 _)⟩
set_option maxHeartbeats 20000000 in
set_option maxRecDepth 100000 in
theorem rTake_byp (c ch : Int) (s : Int) (d : ByteArray) (cr h fc : Int) (lo wa re : Bool) (by_ nx : Int) (room : Bool) (g : Nat) (w : World) (nn : Int) (okk : Bool) (k1 : 1 ≤ h) (k2 : h ≤ 127) (k3 : 0 ≤ by_) (k4 : by_ ≤ 3) (k5 : 0 ≤ nx) (k6 : nx ≤ 255) (hB : Blk w g (Fm.mk cr (2 * h) ⟨fc, lo, wa, re, by_, nx⟩).cells 78) (hgd : (Tc.mk c ch true false s d).good = true) (hc1 : (c != cr) = false) (hd1 : (ch != fc) = false) (hctl : (Tc.mk c ch true false s d).ctl3 = (false, nn, okk)) :
    Calls Try.prog 40 #[.pointer (some ⟨g, 0, none⟩), (Tc.mk c ch true false s d).val, .bool room] w fun e w' => e = .returned (.tuple #[.bool true, .int .i64 0]) ∧ Keep [g] w w' ∧ Blk w' g (Fm.mk cr (2 * h) ⟨fc, lo, wa, re, (by_ + 1) % 4, nx⟩).cells 78 := by
  have hV := Valid_any (Tc.mk c ch true false s d)
  rw [hgd] at hV
  have hct := rControl_any (Tc.mk c ch true false s d)
  unfold Tc.ctlV out3 at hct
  rw [hctl] at hct
  have hlt : g < w.heap.size := hB.lt
  obtain ⟨m, hm, hm0, hm3⟩ := mod4 by_ k3 k4
  simp only [Tc.val] at hV hct ⊢
  have HCT := Lib.hid hct
  have HM := Lib.hid hm
  clear hct hgd hm
  have HV := Lib.hid hV; clear hV
  have HK := Lib.hid ((Keep.refl [g] w).alloc (Obj.cells #[.int .i64 c, .int .i64 ch, .bool true, .bool false, .int .i64 s, .string d] 30))
  have HF := Lib.hid (hB.alloc (Obj.cells #[.int .i64 c, .int .i64 ch, .bool true, .bool false, .int .i64 s, .string d] 30))
  have HX := Lib.hid (Blk.new w [.int .i64 c, .int .i64 ch, .bool true, .bool false, .int .i64 s, .string d] 30)
  clear hB
  go_enter Try.func40, Try.ntmps40
  go_wp2_with fail
  refine gen_world (fun v => Keep [g] w v ∧ Blk v g (Fm.mk cr (2 * h) ⟨fc, lo, wa, re, by_, nx⟩).cells 78 ∧ Blk v w.heap.size [.int .i64 c, .int .i64 ch, .bool true, .bool false, .int .i64 s, .string d] 30) ⟨HK.out, HF.out, HX.out⟩ ?_
  clear HK HF HX
  rintro v ⟨hK, hF, hX⟩
  have HK := Lib.hid hK; have HF := Lib.hid hF; have HX := Lib.hid hX; clear hK hF hX
  have x0 := cl_blk HX.out 0
  have x1 := cl_blk HX.out 1
  have x2 := cl_blk HX.out 2
  have x3 := cl_blk HX.out 3
  have x4 := cl_blk HX.out 4
  have x5 := cl_blk HX.out 5
  simp only [List.getElem?_cons_zero, List.getElem?_cons_succ] at x0 x1 x2 x3 x4 x5
  have c0 := cl_blk HF.out 0
  have c2 := cl_blk HF.out 2
  simp only [Fm.cells, List.getElem?_cons_zero, List.getElem?_cons_succ] at c0 c2
  refine region_calm v.heap.size (by kernel_rfl) (by kernel_rfl) ?_
  repeat (go_big_quiet_step ((go_at_call 58; exact cl_call _ (Nat.le_refl _) (HV.out _))))
  refine wpQuiet_nil ?_
  intro v1 hL
  replace HK := Lib.hid (HK.out.below hL HK.out.size)
  replace HF := Lib.hid (HF.out.below hL HF.out.lt)
  replace HX := Lib.hid (HX.out.below hL HX.out.lt)
  clear hL x0 x1 x2 x3 x4 x5 c0 c2
  have x0 := HX.out.cell 0
  have x1 := HX.out.cell 1
  have x2 := HX.out.cell 2
  have x3 := HX.out.cell 3
  have x4 := HX.out.cell 4
  have x5 := HX.out.cell 5
  simp only [List.getElem?_cons_zero, List.getElem?_cons_succ] at x0 x1 x2 x3 x4 x5
  go_wp2_with fail
  refine (HCT.out _).mono ?_
  rintro e v2 ⟨rfl, hL⟩
  clear x0 x1 x2 x3 x4 x5
  replace HK := Lib.hid (HK.out.below hL HK.out.size)
  replace HF := Lib.hid (HF.out.below hL HF.out.lt)
  replace HX := Lib.hid (HX.out.below hL HX.out.lt)
  clear hL
  have x0 := HX.out.cell 0
  have x1 := HX.out.cell 1
  have x2 := HX.out.cell 2
  have x3 := HX.out.cell 3
  have x4 := HX.out.cell 4
  have x5 := HX.out.cell 5
  simp only [List.getElem?_cons_zero, List.getElem?_cons_succ] at x0 x1 x2 x3 x4 x5
  have c0 := HF.out.cell 0
  have c1 := HF.out.cell 1
  have c2 := HF.out.cell 2
  have c3 := HF.out.cell 3
  have c4 := HF.out.cell 4
  have c5 := HF.out.cell 5
  have c6 := HF.out.cell 6
  have c7 := HF.out.cell 7
  simp only [Fm.cells, List.getElem?_cons_zero, List.getElem?_cons_succ] at c0 c1 c2 c3 c4 c5 c6 c7
  have f0 := HF.out.free 0
  have f1 := HF.out.free 1
  have f2 := HF.out.free 2
  have f3 := HF.out.free 3
  have f4 := HF.out.free 4
  have f5 := HF.out.free 5
  have f6 := HF.out.free 6
  have f7 := HF.out.free 7
  have e1 : by_ + 1 ≤ 4 := by omega
  go_wp2_with fail
  go_ret2
  exact ⟨rfl, (HK.out.setCell (.inl (by simp)) _), (HF.out.set 6 _)⟩
set_option maxHeartbeats 20000000 in
set_option maxRecDepth 100000 in
theorem rTake_shut (c ch : Int) (s : Int) (d : ByteArray) (cr h fc : Int) (wa re : Bool) (by_ nx : Int) (room : Bool) (g : Nat) (w : World) (un : Bool) (nn : Int) (okk : Bool) (k1 : 1 ≤ h) (k2 : h ≤ 127) (k3 : 0 ≤ by_) (k4 : by_ ≤ 3) (k5 : 0 ≤ nx) (k6 : nx ≤ 255) (hB : Blk w g (Fm.mk cr (2 * h) ⟨fc, true, wa, re, by_, nx⟩).cells 78) (hgd : (Tc.mk c ch false false s d).good = true) (hc1 : (c != cr) = false) (hd1 : (ch != fc) = false) (hctl : (Tc.mk c ch false false s d).ctl3 = (un, nn, okk)) :
    Calls Try.prog 40 #[.pointer (some ⟨g, 0, none⟩), (Tc.mk c ch false false s d).val, .bool room] w fun e w' => e = .returned (.tuple #[.bool false, .int .i64 0]) ∧ Keep [g] w w' ∧ Blk w' g (Fm.mk cr (2 * h) ⟨fc, true, wa, re, by_, nx⟩).cells 78 := by
  have hV := Valid_any (Tc.mk c ch false false s d)
  rw [hgd] at hV
  have hct := rControl_any (Tc.mk c ch false false s d)
  unfold Tc.ctlV out3 at hct
  rw [hctl] at hct
  have hlt : g < w.heap.size := hB.lt
  obtain ⟨m, hm, hm0, hm3⟩ := mod4 by_ k3 k4
  simp only [Tc.val] at hV hct ⊢
  have HCT := Lib.hid hct
  have HM := Lib.hid hm
  clear hct hgd hm
  have HV := Lib.hid hV; clear hV
  have HK := Lib.hid ((Keep.refl [g] w).alloc (Obj.cells #[.int .i64 c, .int .i64 ch, .bool false, .bool false, .int .i64 s, .string d] 30))
  have HF := Lib.hid (hB.alloc (Obj.cells #[.int .i64 c, .int .i64 ch, .bool false, .bool false, .int .i64 s, .string d] 30))
  have HX := Lib.hid (Blk.new w [.int .i64 c, .int .i64 ch, .bool false, .bool false, .int .i64 s, .string d] 30)
  clear hB
  go_enter Try.func40, Try.ntmps40
  go_wp2_with fail
  refine gen_world (fun v => Keep [g] w v ∧ Blk v g (Fm.mk cr (2 * h) ⟨fc, true, wa, re, by_, nx⟩).cells 78 ∧ Blk v w.heap.size [.int .i64 c, .int .i64 ch, .bool false, .bool false, .int .i64 s, .string d] 30) ⟨HK.out, HF.out, HX.out⟩ ?_
  clear HK HF HX
  rintro v ⟨hK, hF, hX⟩
  have HK := Lib.hid hK; have HF := Lib.hid hF; have HX := Lib.hid hX; clear hK hF hX
  have x0 := cl_blk HX.out 0
  have x1 := cl_blk HX.out 1
  have x2 := cl_blk HX.out 2
  have x3 := cl_blk HX.out 3
  have x4 := cl_blk HX.out 4
  have x5 := cl_blk HX.out 5
  simp only [List.getElem?_cons_zero, List.getElem?_cons_succ] at x0 x1 x2 x3 x4 x5
  have c0 := cl_blk HF.out 0
  have c2 := cl_blk HF.out 2
  simp only [Fm.cells, List.getElem?_cons_zero, List.getElem?_cons_succ] at c0 c2
  refine region_calm v.heap.size (by kernel_rfl) (by kernel_rfl) ?_
  repeat (go_big_quiet_step ((go_at_call 58; exact cl_call _ (Nat.le_refl _) (HV.out _))))
  refine wpQuiet_nil ?_
  intro v1 hL
  replace HK := Lib.hid (HK.out.below hL HK.out.size)
  replace HF := Lib.hid (HF.out.below hL HF.out.lt)
  replace HX := Lib.hid (HX.out.below hL HX.out.lt)
  clear hL x0 x1 x2 x3 x4 x5 c0 c2
  have x0 := HX.out.cell 0
  have x1 := HX.out.cell 1
  have x2 := HX.out.cell 2
  have x3 := HX.out.cell 3
  have x4 := HX.out.cell 4
  have x5 := HX.out.cell 5
  simp only [List.getElem?_cons_zero, List.getElem?_cons_succ] at x0 x1 x2 x3 x4 x5
  go_wp2_with fail
  refine (HCT.out _).mono ?_
  rintro e v2 ⟨rfl, hL⟩
  clear x0 x1 x2 x3 x4 x5
  replace HK := Lib.hid (HK.out.below hL HK.out.size)
  replace HF := Lib.hid (HF.out.below hL HF.out.lt)
  replace HX := Lib.hid (HX.out.below hL HX.out.lt)
  clear hL
  have x0 := HX.out.cell 0
  have x1 := HX.out.cell 1
  have x2 := HX.out.cell 2
  have x3 := HX.out.cell 3
  have x4 := HX.out.cell 4
  have x5 := HX.out.cell 5
  simp only [List.getElem?_cons_zero, List.getElem?_cons_succ] at x0 x1 x2 x3 x4 x5
  have c0 := HF.out.cell 0
  have c1 := HF.out.cell 1
  have c2 := HF.out.cell 2
  have c3 := HF.out.cell 3
  have c4 := HF.out.cell 4
  have c5 := HF.out.cell 5
  have c6 := HF.out.cell 6
  have c7 := HF.out.cell 7
  simp only [Fm.cells, List.getElem?_cons_zero, List.getElem?_cons_succ] at c0 c1 c2 c3 c4 c5 c6 c7
  have f0 := HF.out.free 0
  have f1 := HF.out.free 1
  have f2 := HF.out.free 2
  have f3 := HF.out.free 3
  have f4 := HF.out.free 4
  have f5 := HF.out.free 5
  have f6 := HF.out.free 6
  have f7 := HF.out.free 7
  have e1 : by_ + 1 ≤ 4 := by omega
  go_wp2_with fail
  go_ret2
  exact ⟨rfl, HK.out, HF.out⟩
set_option maxHeartbeats 20000000 in
set_option maxRecDepth 100000 in
theorem rTake_next (c ch : Int) (s : Int) (d : ByteArray) (cr h fc : Int) (wa re : Bool) (by_ nx : Int) (g : Nat) (w : World) (un : Bool) (nn : Int) (okk : Bool) (k1 : 1 ≤ h) (k2 : h ≤ 127) (k3 : 0 ≤ by_) (k4 : by_ ≤ 3) (k5 : 0 ≤ nx) (k6 : nx ≤ 255) (hB : Blk w g (Fm.mk cr (2 * h) ⟨fc, false, wa, re, by_, nx⟩).cells 78) (hgd : (Tc.mk c ch false false s d).good = true) (hc1 : (c != cr) = false) (hd1 : (ch != fc) = false) (hctl : (Tc.mk c ch false false s d).ctl3 = (un, nn, okk)) (ha : (s - nx + 256) % 256 = 0) :
    Calls Try.prog 40 #[.pointer (some ⟨g, 0, none⟩), (Tc.mk c ch false false s d).val, .bool true] w fun e w' => e = .returned (.tuple #[.bool true, .int .i64 0]) ∧ Keep [g] w w' ∧ Blk w' g (Fm.mk cr (2 * h) ⟨fc, false, wa, false, by_, (nx + 1) % 256⟩).cells 78 := by
  have hV := Valid_any (Tc.mk c ch false false s d)
  rw [hgd] at hV
  have hct := rControl_any (Tc.mk c ch false false s d)
  unfold Tc.ctlV out3 at hct
  rw [hctl] at hct
  have hlt : g < w.heap.size := hB.lt
  obtain ⟨m, hm, hm0, hm3⟩ := mod4 by_ k3 k4
  have ha0 : 0 ≤ s - nx + 256 := by have := ((Tc.good_iff _).1 hgd).1; simp only at this; omega
  have hs0 : 0 ≤ s := by have := ((Tc.good_iff _).1 hgd).1; simp only at this; omega
  have hs1 : s ≤ 255 := by have := ((Tc.good_iff _).1 hgd).1; simp only at this; omega
  have a1 : ((s - nx + 256) % 256 == 0) = true := by rw [ha]; rfl
  have hh : 2 * h / 2 = h := by omega
  simp only [Tc.val] at hV hct ⊢
  have HCT := Lib.hid hct
  have HM := Lib.hid hm
  clear hct hgd hm
  have HV := Lib.hid hV; clear hV
  have HK := Lib.hid ((Keep.refl [g] w).alloc (Obj.cells #[.int .i64 c, .int .i64 ch, .bool false, .bool false, .int .i64 s, .string d] 30))
  have HF := Lib.hid (hB.alloc (Obj.cells #[.int .i64 c, .int .i64 ch, .bool false, .bool false, .int .i64 s, .string d] 30))
  have HX := Lib.hid (Blk.new w [.int .i64 c, .int .i64 ch, .bool false, .bool false, .int .i64 s, .string d] 30)
  clear hB
  go_enter Try.func40, Try.ntmps40
  go_wp2_with fail
  refine gen_world (fun v => Keep [g] w v ∧ Blk v g (Fm.mk cr (2 * h) ⟨fc, false, wa, re, by_, nx⟩).cells 78 ∧ Blk v w.heap.size [.int .i64 c, .int .i64 ch, .bool false, .bool false, .int .i64 s, .string d] 30) ⟨HK.out, HF.out, HX.out⟩ ?_
  clear HK HF HX
  rintro v ⟨hK, hF, hX⟩
  have HK := Lib.hid hK; have HF := Lib.hid hF; have HX := Lib.hid hX; clear hK hF hX
  have x0 := cl_blk HX.out 0
  have x1 := cl_blk HX.out 1
  have x2 := cl_blk HX.out 2
  have x3 := cl_blk HX.out 3
  have x4 := cl_blk HX.out 4
  have x5 := cl_blk HX.out 5
  simp only [List.getElem?_cons_zero, List.getElem?_cons_succ] at x0 x1 x2 x3 x4 x5
  have c0 := cl_blk HF.out 0
  have c2 := cl_blk HF.out 2
  simp only [Fm.cells, List.getElem?_cons_zero, List.getElem?_cons_succ] at c0 c2
  refine region_calm v.heap.size (by kernel_rfl) (by kernel_rfl) ?_
  repeat (go_big_quiet_step ((go_at_call 58; exact cl_call _ (Nat.le_refl _) (HV.out _))))
  refine wpQuiet_nil ?_
  intro v1 hL
  replace HK := Lib.hid (HK.out.below hL HK.out.size)
  replace HF := Lib.hid (HF.out.below hL HF.out.lt)
  replace HX := Lib.hid (HX.out.below hL HX.out.lt)
  clear hL x0 x1 x2 x3 x4 x5 c0 c2
  have x0 := HX.out.cell 0
  have x1 := HX.out.cell 1
  have x2 := HX.out.cell 2
  have x3 := HX.out.cell 3
  have x4 := HX.out.cell 4
  have x5 := HX.out.cell 5
  simp only [List.getElem?_cons_zero, List.getElem?_cons_succ] at x0 x1 x2 x3 x4 x5
  go_wp2_with fail
  refine (HCT.out _).mono ?_
  rintro e v2 ⟨rfl, hL⟩
  clear x0 x1 x2 x3 x4 x5
  replace HK := Lib.hid (HK.out.below hL HK.out.size)
  replace HF := Lib.hid (HF.out.below hL HF.out.lt)
  replace HX := Lib.hid (HX.out.below hL HX.out.lt)
  clear hL
  have x0 := HX.out.cell 0
  have x1 := HX.out.cell 1
  have x2 := HX.out.cell 2
  have x3 := HX.out.cell 3
  have x4 := HX.out.cell 4
  have x5 := HX.out.cell 5
  simp only [List.getElem?_cons_zero, List.getElem?_cons_succ] at x0 x1 x2 x3 x4 x5
  have c0 := HF.out.cell 0
  have c1 := HF.out.cell 1
  have c2 := HF.out.cell 2
  have c3 := HF.out.cell 3
  have c4 := HF.out.cell 4
  have c5 := HF.out.cell 5
  have c6 := HF.out.cell 6
  have c7 := HF.out.cell 7
  simp only [Fm.cells, List.getElem?_cons_zero, List.getElem?_cons_succ] at c0 c1 c2 c3 c4 c5 c6 c7
  have f0 := HF.out.free 0
  have f1 := HF.out.free 1
  have f2 := HF.out.free 2
  have f3 := HF.out.free 3
  have f4 := HF.out.free 4
  have f5 := HF.out.free 5
  have f6 := HF.out.free 6
  have f7 := HF.out.free 7
  have e1 : by_ + 1 ≤ 4 := by omega
  go_wp2_with fail
  go_quiet (fail)
  go_wp2_with fail
  go_ret2
  exact ⟨rfl, (((HK.out.drewN _).setCell (.inl (by simp)) _).setCell (.inl (by simp)) _), (((HF.out.drewN _).set 7 _).set 5 _)⟩
set_option maxHeartbeats 20000000 in
set_option maxRecDepth 100000 in
theorem rTake_wait (c ch : Int) (s : Int) (d : ByteArray) (cr h fc : Int) (wa re : Bool) (by_ nx : Int) (g : Nat) (w : World) (un : Bool) (nn : Int) (okk : Bool) (k1 : 1 ≤ h) (k2 : h ≤ 127) (k3 : 0 ≤ by_) (k4 : by_ ≤ 3) (k5 : 0 ≤ nx) (k6 : nx ≤ 255) (hB : Blk w g (Fm.mk cr (2 * h) ⟨fc, false, wa, re, by_, nx⟩).cells 78) (hgd : (Tc.mk c ch false false s d).good = true) (hc1 : (c != cr) = false) (hd1 : (ch != fc) = false) (hctl : (Tc.mk c ch false false s d).ctl3 = (un, nn, okk)) (ha : (s - nx + 256) % 256 = 0) :
    Calls Try.prog 40 #[.pointer (some ⟨g, 0, none⟩), (Tc.mk c ch false false s d).val, .bool false] w fun e w' => e = .returned (.tuple #[.bool false, .int .i64 0]) ∧ Keep [g] w w' ∧ Blk w' g (Fm.mk cr (2 * h) ⟨fc, false, true, true, by_, nx⟩).cells 78 := by
  have hV := Valid_any (Tc.mk c ch false false s d)
  rw [hgd] at hV
  have hct := rControl_any (Tc.mk c ch false false s d)
  unfold Tc.ctlV out3 at hct
  rw [hctl] at hct
  have hlt : g < w.heap.size := hB.lt
  obtain ⟨m, hm, hm0, hm3⟩ := mod4 by_ k3 k4
  have ha0 : 0 ≤ s - nx + 256 := by have := ((Tc.good_iff _).1 hgd).1; simp only at this; omega
  have hs0 : 0 ≤ s := by have := ((Tc.good_iff _).1 hgd).1; simp only at this; omega
  have hs1 : s ≤ 255 := by have := ((Tc.good_iff _).1 hgd).1; simp only at this; omega
  have a1 : ((s - nx + 256) % 256 == 0) = true := by rw [ha]; rfl
  have hh : 2 * h / 2 = h := by omega
  simp only [Tc.val] at hV hct ⊢
  have HCT := Lib.hid hct
  have HM := Lib.hid hm
  clear hct hgd hm
  have HV := Lib.hid hV; clear hV
  have HK := Lib.hid ((Keep.refl [g] w).alloc (Obj.cells #[.int .i64 c, .int .i64 ch, .bool false, .bool false, .int .i64 s, .string d] 30))
  have HF := Lib.hid (hB.alloc (Obj.cells #[.int .i64 c, .int .i64 ch, .bool false, .bool false, .int .i64 s, .string d] 30))
  have HX := Lib.hid (Blk.new w [.int .i64 c, .int .i64 ch, .bool false, .bool false, .int .i64 s, .string d] 30)
  clear hB
  go_enter Try.func40, Try.ntmps40
  go_wp2_with fail
  refine gen_world (fun v => Keep [g] w v ∧ Blk v g (Fm.mk cr (2 * h) ⟨fc, false, wa, re, by_, nx⟩).cells 78 ∧ Blk v w.heap.size [.int .i64 c, .int .i64 ch, .bool false, .bool false, .int .i64 s, .string d] 30) ⟨HK.out, HF.out, HX.out⟩ ?_
  clear HK HF HX
  rintro v ⟨hK, hF, hX⟩
  have HK := Lib.hid hK; have HF := Lib.hid hF; have HX := Lib.hid hX; clear hK hF hX
  have x0 := cl_blk HX.out 0
  have x1 := cl_blk HX.out 1
  have x2 := cl_blk HX.out 2
  have x3 := cl_blk HX.out 3
  have x4 := cl_blk HX.out 4
  have x5 := cl_blk HX.out 5
  simp only [List.getElem?_cons_zero, List.getElem?_cons_succ] at x0 x1 x2 x3 x4 x5
  have c0 := cl_blk HF.out 0
  have c2 := cl_blk HF.out 2
  simp only [Fm.cells, List.getElem?_cons_zero, List.getElem?_cons_succ] at c0 c2
  refine region_calm v.heap.size (by kernel_rfl) (by kernel_rfl) ?_
  repeat (go_big_quiet_step ((go_at_call 58; exact cl_call _ (Nat.le_refl _) (HV.out _))))
  refine wpQuiet_nil ?_
  intro v1 hL
  replace HK := Lib.hid (HK.out.below hL HK.out.size)
  replace HF := Lib.hid (HF.out.below hL HF.out.lt)
  replace HX := Lib.hid (HX.out.below hL HX.out.lt)
  clear hL x0 x1 x2 x3 x4 x5 c0 c2
  have x0 := HX.out.cell 0
  have x1 := HX.out.cell 1
  have x2 := HX.out.cell 2
  have x3 := HX.out.cell 3
  have x4 := HX.out.cell 4
  have x5 := HX.out.cell 5
  simp only [List.getElem?_cons_zero, List.getElem?_cons_succ] at x0 x1 x2 x3 x4 x5
  go_wp2_with fail
  refine (HCT.out _).mono ?_
  rintro e v2 ⟨rfl, hL⟩
  clear x0 x1 x2 x3 x4 x5
  replace HK := Lib.hid (HK.out.below hL HK.out.size)
  replace HF := Lib.hid (HF.out.below hL HF.out.lt)
  replace HX := Lib.hid (HX.out.below hL HX.out.lt)
  clear hL
  have x0 := HX.out.cell 0
  have x1 := HX.out.cell 1
  have x2 := HX.out.cell 2
  have x3 := HX.out.cell 3
  have x4 := HX.out.cell 4
  have x5 := HX.out.cell 5
  simp only [List.getElem?_cons_zero, List.getElem?_cons_succ] at x0 x1 x2 x3 x4 x5
  have c0 := HF.out.cell 0
  have c1 := HF.out.cell 1
  have c2 := HF.out.cell 2
  have c3 := HF.out.cell 3
  have c4 := HF.out.cell 4
  have c5 := HF.out.cell 5
  have c6 := HF.out.cell 6
  have c7 := HF.out.cell 7
  simp only [Fm.cells, List.getElem?_cons_zero, List.getElem?_cons_succ] at c0 c1 c2 c3 c4 c5 c6 c7
  have f0 := HF.out.free 0
  have f1 := HF.out.free 1
  have f2 := HF.out.free 2
  have f3 := HF.out.free 3
  have f4 := HF.out.free 4
  have f5 := HF.out.free 5
  have f6 := HF.out.free 6
  have f7 := HF.out.free 7
  have e1 : by_ + 1 ≤ 4 := by omega
  go_wp2_with fail
  go_quiet (fail)
  go_wp2_with fail
  go_ret2
  exact ⟨rfl, (((HK.out.drewN _).setCell (.inl (by simp)) _).setCell (.inl (by simp)) _), (((HF.out.drewN _).set 4 _).set 5 _)⟩
set_option maxHeartbeats 20000000 in
set_option maxRecDepth 100000 in
theorem rTake_ahead (c ch : Int) (s : Int) (d : ByteArray) (cr h fc : Int) (wa re : Bool) (by_ nx : Int) (room : Bool) (g : Nat) (w : World) (un : Bool) (nn : Int) (okk : Bool) (k1 : 1 ≤ h) (k2 : h ≤ 127) (k3 : 0 ≤ by_) (k4 : by_ ≤ 3) (k5 : 0 ≤ nx) (k6 : nx ≤ 255) (hB : Blk w g (Fm.mk cr (2 * h) ⟨fc, false, wa, re, by_, nx⟩).cells 78) (hgd : (Tc.mk c ch false false s d).good = true) (hc1 : (c != cr) = false) (hd1 : (ch != fc) = false) (hctl : (Tc.mk c ch false false s d).ctl3 = (un, nn, okk)) (ha : 0 < (s - nx + 256) % 256) (ha2 : (s - nx + 256) % 256 ≤ h - 1) :
    Calls Try.prog 40 #[.pointer (some ⟨g, 0, none⟩), (Tc.mk c ch false false s d).val, .bool room] w fun e w' => e = .returned (.tuple #[.bool false, .int .i64 0]) ∧ Keep [g] w w' ∧ Blk w' g (Fm.mk cr (2 * h) ⟨fc, false, wa, true, by_, nx⟩).cells 78 := by
  have hV := Valid_any (Tc.mk c ch false false s d)
  rw [hgd] at hV
  have hct := rControl_any (Tc.mk c ch false false s d)
  unfold Tc.ctlV out3 at hct
  rw [hctl] at hct
  have hlt : g < w.heap.size := hB.lt
  obtain ⟨m, hm, hm0, hm3⟩ := mod4 by_ k3 k4
  have ha0 : 0 ≤ s - nx + 256 := by have := ((Tc.good_iff _).1 hgd).1; simp only at this; omega
  have hs0 : 0 ≤ s := by have := ((Tc.good_iff _).1 hgd).1; simp only at this; omega
  have hs1 : s ≤ 255 := by have := ((Tc.good_iff _).1 hgd).1; simp only at this; omega
  have a1 : ((s - nx + 256) % 256 == 0) = false := by rw [beq_eq_false_iff_ne]; omega
  have a2 : decide ((s - nx + 256) % 256 ≤ h - 1) = true := by rw [decide_eq_true_eq]; omega
  have hh : 2 * h / 2 = h := by omega
  simp only [Tc.val] at hV hct ⊢
  have HCT := Lib.hid hct
  have HM := Lib.hid hm
  clear hct hgd hm
  have HV := Lib.hid hV; clear hV
  have HK := Lib.hid ((Keep.refl [g] w).alloc (Obj.cells #[.int .i64 c, .int .i64 ch, .bool false, .bool false, .int .i64 s, .string d] 30))
  have HF := Lib.hid (hB.alloc (Obj.cells #[.int .i64 c, .int .i64 ch, .bool false, .bool false, .int .i64 s, .string d] 30))
  have HX := Lib.hid (Blk.new w [.int .i64 c, .int .i64 ch, .bool false, .bool false, .int .i64 s, .string d] 30)
  clear hB
  go_enter Try.func40, Try.ntmps40
  go_wp2_with fail
  refine gen_world (fun v => Keep [g] w v ∧ Blk v g (Fm.mk cr (2 * h) ⟨fc, false, wa, re, by_, nx⟩).cells 78 ∧ Blk v w.heap.size [.int .i64 c, .int .i64 ch, .bool false, .bool false, .int .i64 s, .string d] 30) ⟨HK.out, HF.out, HX.out⟩ ?_
  clear HK HF HX
  rintro v ⟨hK, hF, hX⟩
  have HK := Lib.hid hK; have HF := Lib.hid hF; have HX := Lib.hid hX; clear hK hF hX
  have x0 := cl_blk HX.out 0
  have x1 := cl_blk HX.out 1
  have x2 := cl_blk HX.out 2
  have x3 := cl_blk HX.out 3
  have x4 := cl_blk HX.out 4
  have x5 := cl_blk HX.out 5
  simp only [List.getElem?_cons_zero, List.getElem?_cons_succ] at x0 x1 x2 x3 x4 x5
  have c0 := cl_blk HF.out 0
  have c2 := cl_blk HF.out 2
  simp only [Fm.cells, List.getElem?_cons_zero, List.getElem?_cons_succ] at c0 c2
  refine region_calm v.heap.size (by kernel_rfl) (by kernel_rfl) ?_
  repeat (go_big_quiet_step ((go_at_call 58; exact cl_call _ (Nat.le_refl _) (HV.out _))))
  refine wpQuiet_nil ?_
  intro v1 hL
  replace HK := Lib.hid (HK.out.below hL HK.out.size)
  replace HF := Lib.hid (HF.out.below hL HF.out.lt)
  replace HX := Lib.hid (HX.out.below hL HX.out.lt)
  clear hL x0 x1 x2 x3 x4 x5 c0 c2
  have x0 := HX.out.cell 0
  have x1 := HX.out.cell 1
  have x2 := HX.out.cell 2
  have x3 := HX.out.cell 3
  have x4 := HX.out.cell 4
  have x5 := HX.out.cell 5
  simp only [List.getElem?_cons_zero, List.getElem?_cons_succ] at x0 x1 x2 x3 x4 x5
  go_wp2_with fail
  refine (HCT.out _).mono ?_
  rintro e v2 ⟨rfl, hL⟩
  clear x0 x1 x2 x3 x4 x5
  replace HK := Lib.hid (HK.out.below hL HK.out.size)
  replace HF := Lib.hid (HF.out.below hL HF.out.lt)
  replace HX := Lib.hid (HX.out.below hL HX.out.lt)
  clear hL
  have x0 := HX.out.cell 0
  have x1 := HX.out.cell 1
  have x2 := HX.out.cell 2
  have x3 := HX.out.cell 3
  have x4 := HX.out.cell 4
  have x5 := HX.out.cell 5
  simp only [List.getElem?_cons_zero, List.getElem?_cons_succ] at x0 x1 x2 x3 x4 x5
  have c0 := HF.out.cell 0
  have c1 := HF.out.cell 1
  have c2 := HF.out.cell 2
  have c3 := HF.out.cell 3
  have c4 := HF.out.cell 4
  have c5 := HF.out.cell 5
  have c6 := HF.out.cell 6
  have c7 := HF.out.cell 7
  simp only [Fm.cells, List.getElem?_cons_zero, List.getElem?_cons_succ] at c0 c1 c2 c3 c4 c5 c6 c7
  have f0 := HF.out.free 0
  have f1 := HF.out.free 1
  have f2 := HF.out.free 2
  have f3 := HF.out.free 3
  have f4 := HF.out.free 4
  have f5 := HF.out.free 5
  have f6 := HF.out.free 6
  have f7 := HF.out.free 7
  have e1 : by_ + 1 ≤ 4 := by omega
  go_wp2_with fail
  go_quiet (fail)
  go_wp2_with fail
  go_ret2
  exact ⟨rfl, ((HK.out.drewN _).setCell (.inl (by simp)) _), ((HF.out.drewN _).set 5 _)⟩
set_option maxHeartbeats 20000000 in
set_option maxRecDepth 100000 in
theorem rTake_far (c ch : Int) (s : Int) (d : ByteArray) (cr h fc : Int) (wa re : Bool) (by_ nx : Int) (room : Bool) (g : Nat) (w : World) (un : Bool) (nn : Int) (okk : Bool) (k1 : 1 ≤ h) (k2 : h ≤ 127) (k3 : 0 ≤ by_) (k4 : by_ ≤ 3) (k5 : 0 ≤ nx) (k6 : nx ≤ 255) (hB : Blk w g (Fm.mk cr (2 * h) ⟨fc, false, wa, re, by_, nx⟩).cells 78) (hgd : (Tc.mk c ch false false s d).good = true) (hc1 : (c != cr) = false) (hd1 : (ch != fc) = false) (hctl : (Tc.mk c ch false false s d).ctl3 = (un, nn, okk)) (ha : h ≤ (s - nx + 256) % 256) (ha2 : (s - nx + 256) % 256 < 256 - h) :
    Calls Try.prog 40 #[.pointer (some ⟨g, 0, none⟩), (Tc.mk c ch false false s d).val, .bool room] w fun e w' => e = .returned (.tuple #[.bool false, .int .i64 0]) ∧ Keep [g] w w' ∧ Blk w' g (Fm.mk cr (2 * h) ⟨fc, true, wa, re, by_, nx⟩).cells 78 := by
  have hV := Valid_any (Tc.mk c ch false false s d)
  rw [hgd] at hV
  have hct := rControl_any (Tc.mk c ch false false s d)
  unfold Tc.ctlV out3 at hct
  rw [hctl] at hct
  have hlt : g < w.heap.size := hB.lt
  obtain ⟨m, hm, hm0, hm3⟩ := mod4 by_ k3 k4
  have ha0 : 0 ≤ s - nx + 256 := by have := ((Tc.good_iff _).1 hgd).1; simp only at this; omega
  have hs0 : 0 ≤ s := by have := ((Tc.good_iff _).1 hgd).1; simp only at this; omega
  have hs1 : s ≤ 255 := by have := ((Tc.good_iff _).1 hgd).1; simp only at this; omega
  have a1 : ((s - nx + 256) % 256 == 0) = false := by rw [beq_eq_false_iff_ne]; omega
  have a2 : decide ((s - nx + 256) % 256 ≤ h - 1) = false := by rw [decide_eq_false_iff_not]; omega
  have a3 : decide ((s - nx + 256) % 256 < 256 - h) = true := by rw [decide_eq_true_eq]; omega
  have hh : 2 * h / 2 = h := by omega
  simp only [Tc.val] at hV hct ⊢
  have HCT := Lib.hid hct
  have HM := Lib.hid hm
  clear hct hgd hm
  have HV := Lib.hid hV; clear hV
  have HK := Lib.hid ((Keep.refl [g] w).alloc (Obj.cells #[.int .i64 c, .int .i64 ch, .bool false, .bool false, .int .i64 s, .string d] 30))
  have HF := Lib.hid (hB.alloc (Obj.cells #[.int .i64 c, .int .i64 ch, .bool false, .bool false, .int .i64 s, .string d] 30))
  have HX := Lib.hid (Blk.new w [.int .i64 c, .int .i64 ch, .bool false, .bool false, .int .i64 s, .string d] 30)
  clear hB
  go_enter Try.func40, Try.ntmps40
  go_wp2_with fail
  refine gen_world (fun v => Keep [g] w v ∧ Blk v g (Fm.mk cr (2 * h) ⟨fc, false, wa, re, by_, nx⟩).cells 78 ∧ Blk v w.heap.size [.int .i64 c, .int .i64 ch, .bool false, .bool false, .int .i64 s, .string d] 30) ⟨HK.out, HF.out, HX.out⟩ ?_
  clear HK HF HX
  rintro v ⟨hK, hF, hX⟩
  have HK := Lib.hid hK; have HF := Lib.hid hF; have HX := Lib.hid hX; clear hK hF hX
  have x0 := cl_blk HX.out 0
  have x1 := cl_blk HX.out 1
  have x2 := cl_blk HX.out 2
  have x3 := cl_blk HX.out 3
  have x4 := cl_blk HX.out 4
  have x5 := cl_blk HX.out 5
  simp only [List.getElem?_cons_zero, List.getElem?_cons_succ] at x0 x1 x2 x3 x4 x5
  have c0 := cl_blk HF.out 0
  have c2 := cl_blk HF.out 2
  simp only [Fm.cells, List.getElem?_cons_zero, List.getElem?_cons_succ] at c0 c2
  refine region_calm v.heap.size (by kernel_rfl) (by kernel_rfl) ?_
  repeat (go_big_quiet_step ((go_at_call 58; exact cl_call _ (Nat.le_refl _) (HV.out _))))
  refine wpQuiet_nil ?_
  intro v1 hL
  replace HK := Lib.hid (HK.out.below hL HK.out.size)
  replace HF := Lib.hid (HF.out.below hL HF.out.lt)
  replace HX := Lib.hid (HX.out.below hL HX.out.lt)
  clear hL x0 x1 x2 x3 x4 x5 c0 c2
  have x0 := HX.out.cell 0
  have x1 := HX.out.cell 1
  have x2 := HX.out.cell 2
  have x3 := HX.out.cell 3
  have x4 := HX.out.cell 4
  have x5 := HX.out.cell 5
  simp only [List.getElem?_cons_zero, List.getElem?_cons_succ] at x0 x1 x2 x3 x4 x5
  go_wp2_with fail
  refine (HCT.out _).mono ?_
  rintro e v2 ⟨rfl, hL⟩
  clear x0 x1 x2 x3 x4 x5
  replace HK := Lib.hid (HK.out.below hL HK.out.size)
  replace HF := Lib.hid (HF.out.below hL HF.out.lt)
  replace HX := Lib.hid (HX.out.below hL HX.out.lt)
  clear hL
  have x0 := HX.out.cell 0
  have x1 := HX.out.cell 1
  have x2 := HX.out.cell 2
  have x3 := HX.out.cell 3
  have x4 := HX.out.cell 4
  have x5 := HX.out.cell 5
  simp only [List.getElem?_cons_zero, List.getElem?_cons_succ] at x0 x1 x2 x3 x4 x5
  have c0 := HF.out.cell 0
  have c1 := HF.out.cell 1
  have c2 := HF.out.cell 2
  have c3 := HF.out.cell 3
  have c4 := HF.out.cell 4
  have c5 := HF.out.cell 5
  have c6 := HF.out.cell 6
  have c7 := HF.out.cell 7
  simp only [Fm.cells, List.getElem?_cons_zero, List.getElem?_cons_succ] at c0 c1 c2 c3 c4 c5 c6 c7
  have f0 := HF.out.free 0
  have f1 := HF.out.free 1
  have f2 := HF.out.free 2
  have f3 := HF.out.free 3
  have f4 := HF.out.free 4
  have f5 := HF.out.free 5
  have f6 := HF.out.free 6
  have f7 := HF.out.free 7
  have e1 : by_ + 1 ≤ 4 := by omega
  go_wp2_with fail
  go_quiet (fail)
  go_wp2_with fail
  go_ret2
  exact ⟨rfl, ((HK.out.drewN _).setCell (.inl (by simp)) _), ((HF.out.drewN _).set 3 _)⟩
set_option maxHeartbeats 20000000 in
set_option maxRecDepth 100000 in
theorem rTake_old (c ch : Int) (s : Int) (d : ByteArray) (cr h fc : Int) (wa re : Bool) (by_ nx : Int) (room : Bool) (g : Nat) (w : World) (un : Bool) (nn : Int) (okk : Bool) (k1 : 1 ≤ h) (k2 : h ≤ 127) (k3 : 0 ≤ by_) (k4 : by_ ≤ 3) (k5 : 0 ≤ nx) (k6 : nx ≤ 255) (hB : Blk w g (Fm.mk cr (2 * h) ⟨fc, false, wa, re, by_, nx⟩).cells 78) (hgd : (Tc.mk c ch false false s d).good = true) (hc1 : (c != cr) = false) (hd1 : (ch != fc) = false) (hctl : (Tc.mk c ch false false s d).ctl3 = (un, nn, okk)) (ha2 : 256 - h ≤ (s - nx + 256) % 256) :
    Calls Try.prog 40 #[.pointer (some ⟨g, 0, none⟩), (Tc.mk c ch false false s d).val, .bool room] w fun e w' => e = .returned (.tuple #[.bool false, .int .i64 0]) ∧ Keep [g] w w' ∧ Blk w' g (Fm.mk cr (2 * h) ⟨fc, false, wa, re, by_, nx⟩).cells 78 := by
  have hV := Valid_any (Tc.mk c ch false false s d)
  rw [hgd] at hV
  have hct := rControl_any (Tc.mk c ch false false s d)
  unfold Tc.ctlV out3 at hct
  rw [hctl] at hct
  have hlt : g < w.heap.size := hB.lt
  obtain ⟨m, hm, hm0, hm3⟩ := mod4 by_ k3 k4
  have ha0 : 0 ≤ s - nx + 256 := by have := ((Tc.good_iff _).1 hgd).1; simp only at this; omega
  have hs0 : 0 ≤ s := by have := ((Tc.good_iff _).1 hgd).1; simp only at this; omega
  have hs1 : s ≤ 255 := by have := ((Tc.good_iff _).1 hgd).1; simp only at this; omega
  have a1 : ((s - nx + 256) % 256 == 0) = false := by rw [beq_eq_false_iff_ne]; omega
  have a2 : decide ((s - nx + 256) % 256 ≤ h - 1) = false := by rw [decide_eq_false_iff_not]; omega
  have a3 : decide ((s - nx + 256) % 256 < 256 - h) = false := by rw [decide_eq_false_iff_not]; omega
  have hh : 2 * h / 2 = h := by omega
  simp only [Tc.val] at hV hct ⊢
  have HCT := Lib.hid hct
  have HM := Lib.hid hm
  clear hct hgd hm
  have HV := Lib.hid hV; clear hV
  have HK := Lib.hid ((Keep.refl [g] w).alloc (Obj.cells #[.int .i64 c, .int .i64 ch, .bool false, .bool false, .int .i64 s, .string d] 30))
  have HF := Lib.hid (hB.alloc (Obj.cells #[.int .i64 c, .int .i64 ch, .bool false, .bool false, .int .i64 s, .string d] 30))
  have HX := Lib.hid (Blk.new w [.int .i64 c, .int .i64 ch, .bool false, .bool false, .int .i64 s, .string d] 30)
  clear hB
  go_enter Try.func40, Try.ntmps40
  go_wp2_with fail
  refine gen_world (fun v => Keep [g] w v ∧ Blk v g (Fm.mk cr (2 * h) ⟨fc, false, wa, re, by_, nx⟩).cells 78 ∧ Blk v w.heap.size [.int .i64 c, .int .i64 ch, .bool false, .bool false, .int .i64 s, .string d] 30) ⟨HK.out, HF.out, HX.out⟩ ?_
  clear HK HF HX
  rintro v ⟨hK, hF, hX⟩
  have HK := Lib.hid hK; have HF := Lib.hid hF; have HX := Lib.hid hX; clear hK hF hX
  have x0 := cl_blk HX.out 0
  have x1 := cl_blk HX.out 1
  have x2 := cl_blk HX.out 2
  have x3 := cl_blk HX.out 3
  have x4 := cl_blk HX.out 4
  have x5 := cl_blk HX.out 5
  simp only [List.getElem?_cons_zero, List.getElem?_cons_succ] at x0 x1 x2 x3 x4 x5
  have c0 := cl_blk HF.out 0
  have c2 := cl_blk HF.out 2
  simp only [Fm.cells, List.getElem?_cons_zero, List.getElem?_cons_succ] at c0 c2
  refine region_calm v.heap.size (by kernel_rfl) (by kernel_rfl) ?_
  repeat (go_big_quiet_step ((go_at_call 58; exact cl_call _ (Nat.le_refl _) (HV.out _))))
  refine wpQuiet_nil ?_
  intro v1 hL
  replace HK := Lib.hid (HK.out.below hL HK.out.size)
  replace HF := Lib.hid (HF.out.below hL HF.out.lt)
  replace HX := Lib.hid (HX.out.below hL HX.out.lt)
  clear hL x0 x1 x2 x3 x4 x5 c0 c2
  have x0 := HX.out.cell 0
  have x1 := HX.out.cell 1
  have x2 := HX.out.cell 2
  have x3 := HX.out.cell 3
  have x4 := HX.out.cell 4
  have x5 := HX.out.cell 5
  simp only [List.getElem?_cons_zero, List.getElem?_cons_succ] at x0 x1 x2 x3 x4 x5
  go_wp2_with fail
  refine (HCT.out _).mono ?_
  rintro e v2 ⟨rfl, hL⟩
  clear x0 x1 x2 x3 x4 x5
  replace HK := Lib.hid (HK.out.below hL HK.out.size)
  replace HF := Lib.hid (HF.out.below hL HF.out.lt)
  replace HX := Lib.hid (HX.out.below hL HX.out.lt)
  clear hL
  have x0 := HX.out.cell 0
  have x1 := HX.out.cell 1
  have x2 := HX.out.cell 2
  have x3 := HX.out.cell 3
  have x4 := HX.out.cell 4
  have x5 := HX.out.cell 5
  simp only [List.getElem?_cons_zero, List.getElem?_cons_succ] at x0 x1 x2 x3 x4 x5
  have c0 := HF.out.cell 0
  have c1 := HF.out.cell 1
  have c2 := HF.out.cell 2
  have c3 := HF.out.cell 3
  have c4 := HF.out.cell 4
  have c5 := HF.out.cell 5
  have c6 := HF.out.cell 6
  have c7 := HF.out.cell 7
  simp only [Fm.cells, List.getElem?_cons_zero, List.getElem?_cons_succ] at c0 c1 c2 c3 c4 c5 c6 c7
  have f0 := HF.out.free 0
  have f1 := HF.out.free 1
  have f2 := HF.out.free 2
  have f3 := HF.out.free 3
  have f4 := HF.out.free 4
  have f5 := HF.out.free 5
  have f6 := HF.out.free 6
  have f7 := HF.out.free 7
  have e1 : by_ + 1 ≤ 4 := by omega
  go_wp2_with fail
  go_quiet (fail)
  go_wp2_with fail
  go_ret2
  exact ⟨rfl, (HK.out.drewN _), (HF.out.drewN _)⟩
end Go.Proofs.Ytebgehmgjafblaa
