/- What is proved here: the reference's Take does what the program's does; the reference's New and Free. -/
import Derived.Test.YtebgehmgjafblaaR14x
import Derived.Test.YtebgehmgjafblaaF7
import Derived.Test.YtebgehmgjafblaaL14p
set_option linter.unusedVariables false
set_option linter.unusedSimpArgs false
namespace Go.Proofs.Ytebgehmgjafblaa
open Go.RowKit
theorem takeF_bad (f : Fm) (x : Tc) (room : Bool) (h : (x.good && (x.craft == f.craft) && (x.chan == f.st.chan)) = false) : takeF f x room = (f, false, 2) := by
  unfold takeF; rw [h]; rfl
theorem takeF_good (f : Fm) (x : Tc) (room : Bool) (h : (x.good && (x.craft == f.craft) && (x.chan == f.st.chan)) = true) (hb : x.byp = true) : takeF f x room = bypassF f x := by
  unfold takeF; rw [h, hb]; rfl
theorem takeF_data (f : Fm) (x : Tc) (room : Bool) (h : (x.good && (x.craft == f.craft) && (x.chan == f.st.chan)) = true) (hb : x.byp = false) :
    takeF f x room = (doF f (firstAct f ((x.seq - f.st.next) % 256) room), (doF f (firstAct f ((x.seq - f.st.next) % 256) room)).st.next != f.st.next, 0) := by
  unfold takeF; rw [h, hb]; rfl
set_option maxHeartbeats 4000000 in
theorem rTake_any (f : Fm) (x : Tc) (room : Bool) (g : Nat) (w : World) (hok : f.ok) (hB : Blk w g f.dbl.cells 78) :
    Calls Try.prog 40 #[.pointer (some ⟨g, 0, none⟩), x.val, .bool room] w fun e w' => e = .returned (.tuple #[.bool (takeF f x room).2.1, .int .i64 (takeF f x room).2.2]) ∧ Keep [g] w w' ∧ Blk w' g (takeF f x room).1.dbl.cells 78 := by
  obtain ⟨c, ch, b, k, s, d⟩ := x
  obtain ⟨cr, h, ⟨fc, lo, wa, re, by_, nx⟩⟩ := f
  obtain ⟨k1, k2, k3, k4, k5, k6⟩ := hok
  simp only at k1 k2 k3 k4 k5 k6
  simp only [Fm.dbl] at hB
  cases hg : (Tc.mk c ch b k s d).good
  · rw [takeF_bad _ _ _ (by rw [hg]; rfl)]
    exact rTake_bad c ch b k s d cr h fc lo wa re by_ nx room g w hB hg
  by_cases h1 : c = cr
  case neg =>
    rw [takeF_bad _ _ _ (by rw [hg]; simp [h1])]
    exact rTake_craft c ch b k s d cr h fc lo wa re by_ nx room g w hB hg (by simpa using h1)
  by_cases h2 : ch = fc
  case neg =>
    rw [takeF_bad _ _ _ (by rw [hg]; simp [h2])]
    exact rTake_chan c ch b k s d cr h fc lo wa re by_ nx room g w hB hg (by simpa using h1) (by simpa using h2)
  have hc1 : (c != cr) = false := by simpa using h1
  have hd1 : (ch != fc) = false := by simpa using h2
  have hall : ((Tc.mk c ch b k s d).good && ((Tc.mk c ch b k s d).craft == (Fm.mk cr h ⟨fc, lo, wa, re, by_, nx⟩).craft) && ((Tc.mk c ch b k s d).chan == (Fm.mk cr h ⟨fc, lo, wa, re, by_, nx⟩).st.chan)) = true := by
    rw [hg]; simp [h1, h2]
  have hbk := ((Tc.good_iff _).1 hg)
  simp only at hbk
  obtain ⟨hbd, hbk⟩ := hbk
  cases b
  · obtain rfl : k = false := by simpa using hbk
    have hcl : (Tc.mk c ch false false s d).ctl3 = (false, 0, false) := by simp [Tc.ctl3]
    rw [takeF_data _ _ _ hall rfl]
    have ha : (s - nx + 256) % 256 = (s - nx) % 256 := by omega
    simp only
    obtain ⟨a, hae⟩ : ∃ a, a = (s - nx) % 256 := ⟨_, rfl⟩
    have ha0 : 0 ≤ a := by omega
    have ha1 : a < 256 := by omega
    rw [← hae] at ha ⊢
    cases lo
    · by_cases e : a = 0
      · subst e
        cases room
        · exact rTake_wait c ch s d cr h fc wa re by_ nx g w false 0 false k1 k2 k3 k4 k5 k6 hB hg hc1 hd1 hcl ha |>.mono fun _ _ h => by simpa [firstAct, whenB, doF, Fm.dbl] using h
        · have e2 : ((nx + 1) % 256 != nx) = true := by rw [bne_iff_ne]; omega
          exact rTake_next c ch s d cr h fc wa re by_ nx g w false 0 false k1 k2 k3 k4 k5 k6 hB hg hc1 hd1 hcl ha |>.mono fun _ _ h => by simpa [firstAct, whenB, doF, Fm.dbl, e2] using h
      · have e0 : (a == 0) = false := by rw [beq_eq_false_iff_ne]; exact e
        by_cases e1 : a < h
        · exact rTake_ahead c ch s d cr h fc wa re by_ nx room g w false 0 false k1 k2 k3 k4 k5 k6 hB hg hc1 hd1 hcl (by omega) (by omega) |>.mono fun _ _ h => by simpa [firstAct, whenB, doF, Fm.dbl, e0, e1, e] using h
        · by_cases e2 : 256 - h ≤ a
          · exact rTake_old c ch s d cr h fc wa re by_ nx room g w false 0 false k1 k2 k3 k4 k5 k6 hB hg hc1 hd1 hcl (by omega) |>.mono fun _ _ h => by simpa [firstAct, whenB, doF, Fm.dbl, e0, e1, e2, e] using h
          · exact rTake_far c ch s d cr h fc wa re by_ nx room g w false 0 false k1 k2 k3 k4 k5 k6 hB hg hc1 hd1 hcl (by omega) (by omega) |>.mono fun _ _ h => by simpa [firstAct, whenB, doF, Fm.dbl, e0, e1, e2, e] using h
    · exact rTake_shut c ch s d cr h fc wa re by_ nx room g w false 0 false k1 k2 k3 k4 k5 k6 hB hg hc1 hd1 hcl |>.mono fun _ _ h => by simpa [firstAct, whenB, doF, Fm.dbl] using h
  · rw [takeF_good _ _ _ hall rfl]
    cases k
    · have hcl : (Tc.mk c ch true false s d).ctl3 = (false, 0, false) := by simp [Tc.ctl3]
      exact rTake_byp c ch s d cr h fc lo wa re by_ nx room g w 0 false k1 k2 k3 k4 k5 k6 hB hg hc1 hd1 hcl |>.mono fun _ _ h => by simpa [bypassF, Fm.dbl] using h
    · obtain ⟨⟨un, nn, okk⟩, hcl⟩ : ∃ r, r = (Tc.mk c ch true true s d).ctl3 := ⟨_, rfl⟩
      unfold bypassF
      rw [← hcl]
      cases okk
      · exact rTake_form c ch true s d cr h fc lo wa re by_ nx room g w un nn k1 k2 k3 k4 k5 k6 hB hg hc1 hd1 hcl.symm |>.mono fun _ _ h => by simpa [Fm.dbl] using h
      · cases un
        · cases lo
          · exact rTake_set c ch s d cr h fc wa re by_ nx room g w nn k1 k2 k3 k4 k5 k6 hB hg hc1 hd1 hcl.symm |>.mono fun _ _ h => by simpa [Fm.dbl] using h
          · exact rTake_locked c ch s d cr h fc wa re by_ nx room g w nn k1 k2 k3 k4 k5 k6 hB hg hc1 hd1 hcl.symm |>.mono fun _ _ h => by simpa [Fm.dbl] using h
        · exact rTake_unlock c ch s d cr h fc lo wa re by_ nx room g w nn k1 k2 k3 k4 k5 k6 hB hg hc1 hd1 hcl.symm |>.mono fun _ _ h => by simpa [Fm.dbl] using h
/-- The state stays in form. -/
theorem takeF_ok (f : Fm) (x : Tc) (room : Bool) (h : f.ok) : (takeF f x room).1.ok ∧ (takeF f x room).1.st.chan = f.st.chan := by
  obtain ⟨c, ch, b, k, s, d⟩ := x
  obtain ⟨cr, hf, ⟨fc, lo, wa, re, by_, nx⟩⟩ := f
  have ht := take_split cr hf fc lo wa re by_ nx c ch b k s d room h
  obtain ⟨k1, k2, k3, k4, k5, k6⟩ := h
  simp only at k1 k2 k3 k4 k5 k6
  rcases ht with ⟨e0, he0, ht⟩ | ⟨_, _, _, ht⟩ | ⟨m, _, _, _, _, ht⟩ | ⟨m, _, _, _, _, ht⟩ | ⟨_, _, ht⟩ | ⟨_, _, _, ht⟩ | ⟨_, _, _, _, _, ht⟩ | ⟨lo2, wa2, re2, _, _, _, ht⟩
  all_goals
    rw [ht]
    try have hm := m.toNat_lt
    refine ⟨⟨k1, k2, ?_, ?_, ?_, ?_⟩, rfl⟩ <;> simp only <;> omega
set_option maxHeartbeats 1000000 in
set_option maxRecDepth 100000 in
theorem rFree_any (f : Fm) (g : Nat) (w : World) (hB : Blk w g f.cells 78) : Calls Try.prog 39 #[.pointer (some ⟨g, 0, none⟩)] w fun e w' => e = .returned (.tuple #[]) ∧ Keep [g] w w' ∧ Blk w' g (Fm.mk f.craft f.half ⟨f.st.chan, f.st.lockout, false, f.st.retx, f.st.bypd, f.st.next⟩).cells 78 := by
  have HB := Lib.hid hB; clear hB
  have c0 := HB.out.cell 0
  have c1 := HB.out.cell 1
  have c2 := HB.out.cell 2
  have c3 := HB.out.cell 3
  have c4 := HB.out.cell 4
  have c5 := HB.out.cell 5
  have c6 := HB.out.cell 6
  have c7 := HB.out.cell 7
  simp only [Fm.cells, List.getElem?_cons_zero, List.getElem?_cons_succ] at c0 c1 c2 c3 c4 c5 c6 c7
  have f0 := HB.out.free 0
  have f1 := HB.out.free 1
  have f2 := HB.out.free 2
  have f3 := HB.out.free 3
  have f4 := HB.out.free 4
  have f5 := HB.out.free 5
  have f6 := HB.out.free 6
  have f7 := HB.out.free 7
  go_enter Try.func39, Try.ntmps39
  go_wp2_with fail
  go_end0
  exact ⟨rfl, (Keep.refl _ _).setCell (.inl (by simp)) _, HB.out.set 4 _⟩
set_option maxHeartbeats 1000000 in
set_option maxRecDepth 100000 in
theorem Free_any (f : Fm) (g : Nat) (w : World) (hh : f.half ≠ 0) (hB : Blk w g f.cells 82) : Calls Try.prog 38 #[.pointer (some ⟨g, 0, none⟩)] w fun e w' => e = .returned (.tuple #[]) ∧ Keep [g] w w' ∧ Blk w' g (Fm.mk f.craft f.half ⟨f.st.chan, f.st.lockout, false, f.st.retx, f.st.bypd, f.st.next⟩).cells 82 := by
  have HN := Lib.hid (none_any f g w false (by simpa using hh) hB)
  have HB := Lib.hid hB; clear hB
  have c0 := HB.out.cell 0
  have c1 := HB.out.cell 1
  have c2 := HB.out.cell 2
  have c3 := HB.out.cell 3
  have c4 := HB.out.cell 4
  have c5 := HB.out.cell 5
  have c6 := HB.out.cell 6
  have c7 := HB.out.cell 7
  simp only [Fm.cells, List.getElem?_cons_zero, List.getElem?_cons_succ] at c0 c1 c2 c3 c4 c5 c6 c7
  have f0 := HB.out.free 0
  have f1 := HB.out.free 1
  have f2 := HB.out.free 2
  have f3 := HB.out.free 3
  have f4 := HB.out.free 4
  have f5 := HB.out.free 5
  have f6 := HB.out.free 6
  have f7 := HB.out.free 7
  go_enter Try.func38, Try.ntmps38
  go_wp2_with fail
  refine (HN.out).mono ?_
  rintro e _ ⟨rfl, rfl⟩
  go_wp2_with fail
  go_end0
  exact ⟨rfl, (Keep.refl _ _).setCell (.inl (by simp)) _, HB.out.set 4 _⟩
end Go.Proofs.Ytebgehmgjafblaa
