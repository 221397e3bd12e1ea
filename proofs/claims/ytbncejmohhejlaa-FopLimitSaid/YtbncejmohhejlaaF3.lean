/- What is proved here: the walk of the method for bypass frames. -/
import Derived.Test.YtbncejmohhejlaaF2
set_option linter.unusedVariables false
set_option linter.unusedSimpArgs false
namespace Go.Proofs.Ytbncejmohhejlaa
open Go.RowKit
/-- What a bypass frame does: the automaton after it, and the answer. -/
def bypassF (f : Fm) (x : Tc) : Fm × Bool × Int :=
  if x.ctl then
    if x.ctl3.2.2 then
      (⟨f.craft, f.half, if x.ctl3.1 then ⟨f.st.chan, false, false, false, (f.st.bypd + 1) % 4, f.st.next⟩
        else if f.st.lockout then ⟨f.st.chan, true, f.st.wait, f.st.retx, (f.st.bypd + 1) % 4, f.st.next⟩
        else ⟨f.st.chan, false, false, false, (f.st.bypd + 1) % 4, x.ctl3.2.1⟩⟩, false, 0)
    else (f, false, 6)
  else (⟨f.craft, f.half, ⟨f.st.chan, f.st.lockout, f.st.wait, f.st.retx, (f.st.bypd + 1) % 4, f.st.next⟩⟩, true, 0)
theorem and3 (b : Int) (h0 : 0 ≤ b) (h1 : b ≤ 3) : bits .and .i64 (b + 1) 3 = (b + 1) % 4 := by
  have h : b = 0 ∨ b = 1 ∨ b = 2 ∨ b = 3 := by omega
  rcases h with rfl | rfl | rfl | rfl <;> decide
set_option maxHeartbeats 4000000 in
set_option maxRecDepth 100000 in
theorem bypass_any (f : Fm) (x : Tc) (g : Nat) (w : World) (h0 : 0 ≤ f.st.bypd) (h1 : f.st.bypd ≤ 3) (hB : Blk w g f.cells 112) :
    Calls Try.prog 59 #[.pointer (some ⟨g, 0, none⟩), x.val] w fun e w' => e = .returned (.tuple #[.bool (bypassF f x).2.1, .int .i64 (bypassF f x).2.2]) ∧ Keep [g] w w' ∧ Blk w' g (bypassF f x).1.cells 112 := by
  have hcv := Control_any x
  obtain ⟨⟨u, n, ok⟩, h3⟩ : ∃ y, y = x.ctl3 := ⟨_, rfl⟩
  unfold Tc.ctlV out3 at hcv
  unfold bypassF
  rw [← h3] at hcv ⊢
  clear h3
  obtain ⟨c, ch, b, k, s, d⟩ := x
  obtain ⟨cr, hf, ⟨fc, lo, wa, re, by_, nx⟩⟩ := f
  simp only [Tc.val] at hcv h0 h1 ⊢
  have hlt : g < w.heap.size := hB.lt
  obtain ⟨m, hm⟩ : ∃ m, m = (by_ + 1) % 4 := ⟨_, rfl⟩
  have ha : bits .and .i64 (by_ + 1) 3 = m := by rw [hm]; exact and3 _ h0 h1
  rw [← hm]
  clear hm
  have HC := Lib.hid hcv; clear hcv
  have HK := Lib.hid (((Keep.refl [g] w).alloc (Obj.cells #[.int .i64 c, .int .i64 ch, .bool b, .bool k, .int .i64 s, .string d] 31)).alloc (Obj.cells #[.int .i64 fc, .bool lo, .bool wa, .bool re, .int .i64 m, .int .i64 nx] 35))
  have HF := Lib.hid ((hB.alloc (Obj.cells #[.int .i64 c, .int .i64 ch, .bool b, .bool k, .int .i64 s, .string d] 31)).alloc (Obj.cells #[.int .i64 fc, .bool lo, .bool wa, .bool re, .int .i64 m, .int .i64 nx] 35))
  have HX := Lib.hid ((Blk.new w [.int .i64 c, .int .i64 ch, .bool b, .bool k, .int .i64 s, .string d] 31).alloc (Obj.cells #[.int .i64 fc, .bool lo, .bool wa, .bool re, .int .i64 m, .int .i64 nx] 35))
  have HW := Lib.hid (Blk.new_at (w.alloc (Obj.cells #[.int .i64 c, .int .i64 ch, .bool b, .bool k, .int .i64 s, .string d] 31)) [.int .i64 fc, .bool lo, .bool wa, .bool re, .int .i64 m, .int .i64 nx] 35 (w.heap.size + 1) (by simp))
  have HB0 := Lib.hid hB
  have HF0 := Lib.hid (hB.alloc (Obj.cells #[.int .i64 c, .int .i64 ch, .bool b, .bool k, .int .i64 s, .string d] 31)); clear hB
  have c0 := HF0.out.cell 0
  have c1 := HF0.out.cell 1
  have c2 := HF0.out.cell 2
  have c3 := HF0.out.cell 3
  have c4 := HF0.out.cell 4
  have c5 := HF0.out.cell 5
  have c6 := HF0.out.cell 6
  have c7 := HF0.out.cell 7
  simp only [Fm.cells, List.getElem?_cons_zero, List.getElem?_cons_succ] at c0 c1 c2 c3 c4 c5 c6 c7
  have q0 := HB0.out.cell 0
  have q1 := HB0.out.cell 1
  have q2 := HB0.out.cell 2
  have q3 := HB0.out.cell 3
  have q4 := HB0.out.cell 4
  have q5 := HB0.out.cell 5
  have q6 := HB0.out.cell 6
  have q7 := HB0.out.cell 7
  simp only [Fm.cells, List.getElem?_cons_zero, List.getElem?_cons_succ] at q0 q1 q2 q3 q4 q5 q6 q7
  have r0 := HB0.out.free 0
  have r1 := HB0.out.free 1
  have r2 := HB0.out.free 2
  have r3 := HB0.out.free 3
  have r4 := HB0.out.free 4
  have r5 := HB0.out.free 5
  have r6 := HB0.out.free 6
  have r7 := HB0.out.free 7
  cases k
  · go_enter Try.func59, Try.ntmps59
    go_wp2_with fail
    go_ret2
    exact ⟨rfl, ((((((((Keep.refl [g] w).setCell (.inl (by simp)) _).setCell (.inl (by simp)) _).setCell (.inl (by simp)) _).setCell (.inl (by simp)) _).setCell (.inl (by simp)) _).setCell (.inl (by simp)) _).alloc _).alloc _, (((((((HB0.out.set 2 _).set 3 _).set 4 _).set 5 _).set 6 _).set 7 _).alloc _).alloc _⟩
  · go_enter Try.func59, Try.ntmps59
    go_wp2_with fail
    refine (HC.out _).mono ?_
    rintro e w1 ⟨rfl, hL1⟩
    clear q0 q1 q2 q3 q4 q5 q6 q7 r0 r1 r2 r3 r4 r5 r6 r7 c0 c1 c2 c3 c4 c5 c6 c7
    have HK1 := Lib.hid (HK.out.below hL1 (by simp; omega))
    have HF1 := Lib.hid (HF.out.below hL1 (by simp; omega))
    have HX1 := Lib.hid (HX.out.below hL1 (by simp; omega))
    have HW1 := Lib.hid (HW.out.below hL1 (by simp))
    have hs1 : w.heap.size + 2 ≤ w1.heap.size := by have := hL1.size; simp at this; omega
    clear hL1
    have c0 := HF1.out.cell 0
    have c1 := HF1.out.cell 1
    have c2 := HF1.out.cell 2
    have c3 := HF1.out.cell 3
    have c4 := HF1.out.cell 4
    have c5 := HF1.out.cell 5
    have c6 := HF1.out.cell 6
    have c7 := HF1.out.cell 7
    simp only [Fm.cells, List.getElem?_cons_zero, List.getElem?_cons_succ] at c0 c1 c2 c3 c4 c5 c6 c7
    have r0 := HF1.out.free 0
    have r1 := HF1.out.free 1
    have r2 := HF1.out.free 2
    have r3 := HF1.out.free 3
    have r4 := HF1.out.free 4
    have r5 := HF1.out.free 5
    have r6 := HF1.out.free 6
    have r7 := HF1.out.free 7
    have x0 := HX1.out.cell 0
    have x1 := HX1.out.cell 1
    have x2 := HX1.out.cell 2
    have x3 := HX1.out.cell 3
    have x4 := HX1.out.cell 4
    have x5 := HX1.out.cell 5
    simp only [List.getElem?_cons_zero, List.getElem?_cons_succ] at x0 x1 x2 x3 x4 x5
    have q0 := HW1.out.cell 0
    have q1 := HW1.out.cell 1
    have q2 := HW1.out.cell 2
    have q3 := HW1.out.cell 3
    have q4 := HW1.out.cell 4
    have q5 := HW1.out.cell 5
    simp only [List.getElem?_cons_zero, List.getElem?_cons_succ] at q0 q1 q2 q3 q4 q5
    have p0 := HW1.out.free 0
    have p1 := HW1.out.free 1
    have p2 := HW1.out.free 2
    have p3 := HW1.out.free 3
    have p4 := HW1.out.free 4
    have p5 := HW1.out.free 5
    cases ok
    · go_wp2_with fail
      go_ret2
      exact ⟨rfl, HK1.out, HF1.out⟩
    · cases u
      · cases lo
        · go_wp2_with fail
          go_ret2
          exact ⟨rfl, ((((((((((HK1.out.setCell (.inr (by simp)) _).setCell (.inr (by simp)) _).setCell (.inr (by simp)) _).setCell (.inr (by simp)) _).setCell (.inl (by simp)) _).setCell (.inl (by simp)) _).setCell (.inl (by simp)) _).setCell (.inl (by simp)) _).setCell (.inl (by simp)) _).setCell (.inl (by simp)) _), ((((((((((HF1.out.set_far (by simp; omega) _).set_far (by simp; omega) _).set_far (by simp; omega) _).set_far (by simp; omega) _).set 2 _).set 3 _).set 4 _).set 5 _).set 6 _).set 7 _)⟩
        · go_wp2_with fail
          go_ret2
          exact ⟨rfl, (((((HK1.out.setCell (.inl (by simp)) _).setCell (.inl (by simp)) _).setCell (.inl (by simp)) _).setCell (.inl (by simp)) _).setCell (.inl (by simp)) _).setCell (.inl (by simp)) _, (((((HF1.out.set 2 _).set 3 _).set 4 _).set 5 _).set 6 _).set 7 _⟩
      · go_wp2_with fail
        go_ret2
        exact ⟨rfl, (((((((((HK1.out.setCell (.inr (by simp)) _).setCell (.inr (by simp)) _).setCell (.inr (by simp)) _).setCell (.inl (by simp)) _).setCell (.inl (by simp)) _).setCell (.inl (by simp)) _).setCell (.inl (by simp)) _).setCell (.inl (by simp)) _).setCell (.inl (by simp)) _), (((((((((HF1.out.set_far (by simp; omega) _).set_far (by simp; omega) _).set_far (by simp; omega) _).set 2 _).set 3 _).set 4 _).set 5 _).set 6 _).set 7 _)⟩
end Go.Proofs.Ytbncejmohhejlaa
