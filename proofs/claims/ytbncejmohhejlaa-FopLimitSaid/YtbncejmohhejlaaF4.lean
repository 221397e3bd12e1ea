/- What is proved here: the walk of the automaton's Take. -/
import Derived.Test.YtbncejmohhejlaaF3
set_option linter.unusedVariables false
set_option linter.unusedSimpArgs false
namespace Go.Proofs.Ytbncejmohhejlaa
open Go.RowKit
def acts : List Value := [.func (.func 65) #[] #[], .func (.func 66) #[] #[], .func (.func 67) #[] #[], .func (.func 68) #[] #[], .func (.func 69) #[] #[], .func (.func 70) #[] #[], .func (.func 71) #[] #[], .func (.func 72) #[] #[], .func (.func 73) #[] #[], .func (.func 74) #[] #[], .func (.func 75) #[] #[], .func (.func 76) #[] #[]]
theorem gen_act {P : Program} {ops : Array Oper} {Q : Exit → Act → World → Prop} {l : List Oper} {a : Act} {W : World} (φ : World → Prop) (h : φ W) (g : ∀ w, φ w → wpList P ops Q l a w) : wpList P ops Q l a W := g W h
theorem store_fn0 (w : World) (t : TypeId) (f : Fn) (x y : Value) : (store ⟨w.heap.size, 0, none⟩ (.func f #[] #[])).run Try.prog (w.alloc (.cells #[x, y] t)) = .ok () (w.alloc (.cells #[.func f #[] #[], y] t)) := by
  have h := (Blk.new w [x, y] t)
  have c0 := h.cell 0
  have f0 := h.free 0
  rw [run_store _ _ _ _ _ rfl]
  simp only [List.getElem?_cons_zero] at c0
  simp [c0, f0]
  go_simp
theorem store_fn1 (w : World) (t : TypeId) (f : Fn) (x y : Value) : (store ⟨w.heap.size, 1, none⟩ (.func f #[] #[])).run Try.prog (w.alloc (.cells #[x, y] t)) = .ok () (w.alloc (.cells #[x, .func f #[] #[]] t)) := by
  have h := (Blk.new w [x, y] t)
  have c0 := h.cell 1
  have f0 := h.free 1
  rw [run_store _ _ _ _ _ rfl]
  simp only [List.getElem?_cons_zero, List.getElem?_cons_succ] at c0
  simp [c0, f0]
  go_simp
set_option maxHeartbeats 4000000 in
set_option maxRecDepth 100000 in
theorem actions_any (w : World) : Calls Try.prog 60 #[] w fun e w' => e = .returned (.slice (some ⟨w.heap.size, 0, none⟩) 6 6) ∧ Below w.heap.size w w' ∧ Blk w' w.heap.size acts 129 := by
  go_enter Try.func60, Try.ntmps60
  go_wp2_with fail
  go_ret
  exact ⟨rfl, (Below.refl _ _).alloc (Nat.le_refl _) _, Blk.new w acts _⟩
def Fm.ok (f : Fm) : Prop := 1 ≤ f.half ∧ f.half ≤ 127 ∧ 0 ≤ f.st.bypd ∧ f.st.bypd ≤ 3 ∧ 0 ≤ f.st.next ∧ f.st.next ≤ 255
/-- The number of the action that is taken. -/
def firstAct (f : Fm) (a : Int) (room : Bool) : Nat :=
  if whenB f a room 0 then 0 else if whenB f a room 1 then 1 else if whenB f a room 2 then 2 else if whenB f a room 3 then 3 else if whenB f a room 4 then 4 else 5
theorem firstAct_le (f : Fm) (a : Int) (room : Bool) : firstAct f a room ≤ 5 := by
  by_cases h : firstAct f a room ≤ 5
  · exact h
  · exfalso; apply h; unfold firstAct; split
    · omega
    split
    · omega
    split
    · omega
    split
    · omega
    split <;> omega
theorem firstAct_when (f : Fm) (a : Int) (room : Bool) (k : Nat) (h : k ≤ firstAct f a room) : whenB f a room k = decide (k = firstAct f a room) := by
  have h5 := firstAct_le f a room
  unfold firstAct at h ⊢
  have hk : k = 0 ∨ k = 1 ∨ k = 2 ∨ k = 3 ∨ k = 4 ∨ k = 5 := by unfold firstAct at h5; omega
  rcases hk with rfl | rfl | rfl | rfl | rfl | rfl
  all_goals
    cases h0 : whenB f a room 0 <;> cases h1 : whenB f a room 1 <;> cases h2 : whenB f a room 2 <;> cases h3 : whenB f a room 3 <;> cases h4 : whenB f a room 4 <;> simp [h0, h1, h2, h3, h4] at h ⊢ <;> rfl
/-- What Take does: the automaton after it, and the answer. -/
def takeF (f : Fm) (x : Tc) (room : Bool) : Fm × Bool × Int :=
  if x.good && (x.craft == f.craft) && (x.chan == f.st.chan) then
    if x.byp then bypassF f x
    else
      let a := (x.seq - f.st.next) % 256
      let f' := doF f (firstAct f a room)
      (f', f'.st.next != f.st.next, 0)
  else (f, false, 2)
theorem and255 : ∀ n : Nat, n < 511 → bits .and .i64 ((n : Int) - 255) 255 = ((n : Int) - 255) % 256 := by decide +kernel
theorem and255' (d : Int) (h0 : -255 ≤ d) (h1 : d ≤ 255) : bits .and .i64 d 255 = d % 256 := by
  have := and255 (d + 255).toNat (by omega)
  rw [show (((d + 255).toNat : Nat) : Int) - 255 = d by omega] at this
  exact this
set_option maxHeartbeats 4000000 in
set_option maxRecDepth 100000 in
theorem Take_bad (c ch : Int) (b k : Bool) (s : Int) (d : ByteArray) (cr hf fc : Int) (lo wa re : Bool) (by_ nx : Int) (room : Bool) (g : Nat) (w : World) (hok : (Fm.mk cr hf ⟨fc, lo, wa, re, by_, nx⟩).ok) (hB : Blk w g (Fm.mk cr hf ⟨fc, lo, wa, re, by_, nx⟩).cells 112)
    (hg : (Tc.mk c ch b k s d).good = false) :
    Calls Try.prog 53 #[.pointer (some ⟨g, 0, none⟩), (Tc.mk c ch b k s d).val, .bool room] w fun e w' => e = .returned (.tuple #[.bool false, .int .i64 2]) ∧ Keep [g] w w' ∧ Blk w' g (Fm.mk cr hf ⟨fc, lo, wa, re, by_, nx⟩).cells 112 := by
  have hP := Put_any (Tc.mk c ch b k s d)
  obtain ⟨hk1, hk2, hk3, hk4, hk5, hk6⟩ := hok
  have hlt : g < w.heap.size := hB.lt
  have hne : ((Fm.mk cr hf ⟨fc, lo, wa, re, by_, nx⟩).half == 0) = false := by
    have : hf ≠ 0 := by simp only at hk1; omega
    simpa using this
  have hnone := fun w h => none_any (Fm.mk cr hf ⟨fc, lo, wa, re, by_, nx⟩) g w false hne h
  clear hne
  have hsq : (Tc.mk c ch b k s d).good = true → 0 ≤ s ∧ s ≤ 255 := fun h => by have := (Tc.good_iff _).1 h; simp only at this; omega
  unfold Tc.putV at hP
  obtain ⟨s0, hs0⟩ : ∃ s0 : ByteArray, strOf (Tc.mk c ch b k s d).enc = .string s0 := ⟨_, rfl⟩
  rw [hs0] at hP
  clear hs0
  rw [hg] at hP
  clear hg hsq
  simp only [Tc.val] at hP hk1 hk2 hk3 hk4 hk5 hk6 ⊢
  have HP := Lib.hid hP; have HN := Lib.hid hnone; clear hP hnone
  have HK := Lib.hid ((Keep.refl [g] w).alloc (Obj.cells #[.int .i64 c, .int .i64 ch, .bool b, .bool k, .int .i64 s, .string d] 31))
  have HF := Lib.hid (hB.alloc (Obj.cells #[.int .i64 c, .int .i64 ch, .bool b, .bool k, .int .i64 s, .string d] 31))
  have HX := Lib.hid (Blk.new w [.int .i64 c, .int .i64 ch, .bool b, .bool k, .int .i64 s, .string d] 31)
  clear hB
  go_enter Try.func53, Try.ntmps53
  go_wp2_with fail
  refine (HN.out _ HF.out).mono ?_
  rintro e w1 ⟨rfl, rfl⟩
  go_wp2_with fail
  refine (HP.out _).mono ?_
  rintro e w1 ⟨rfl, hL1⟩
  have HK1 := Lib.hid (HK.out.below hL1 (by simp))
  have HF1 := Lib.hid (HF.out.below hL1 (by simp; omega))
  have HX1 := Lib.hid (HX.out.below hL1 (by simp))
  have hs1 : w.heap.size + 1 ≤ w1.heap.size := by have := hL1.size; simp at this; omega
  clear hL1
  have c0 := HF1.out.cell 0
  have c1 := HF1.out.cell 1
  have c2 := HF1.out.cell 2
  have c3 := HF1.out.cell 3
  have c4 := HF1.out.cell 4
  have c5 := HF1.out.cell 5
  have c6 := HF1.out.cell 6
  have c7 := HF1.out.cell 7
  simp only [Fm.cells, List.getElem?_cons_zero, List.getElem?_cons_succ] at c0 c1 c2 c3 c4 c5 c6 c7
  have x0 := HX1.out.cell 0
  have x1 := HX1.out.cell 1
  have x2 := HX1.out.cell 2
  have x3 := HX1.out.cell 3
  have x4 := HX1.out.cell 4
  have x5 := HX1.out.cell 5
  simp only [List.getElem?_cons_zero, List.getElem?_cons_succ] at x0 x1 x2 x3 x4 x5
  go_wp2_with fail
  go_quiet (fail)
  go_wp2_with fail
  go_ret2
  exact ⟨rfl, HK1.out.drewN _, HF1.out.drewN _⟩
set_option maxHeartbeats 4000000 in
set_option maxRecDepth 100000 in
theorem Take_craft (c ch : Int) (b k : Bool) (s : Int) (d : ByteArray) (cr hf fc : Int) (lo wa re : Bool) (by_ nx : Int) (room : Bool) (g : Nat) (w : World) (hok : (Fm.mk cr hf ⟨fc, lo, wa, re, by_, nx⟩).ok) (hB : Blk w g (Fm.mk cr hf ⟨fc, lo, wa, re, by_, nx⟩).cells 112)
    (hg : (Tc.mk c ch b k s d).good = true) (hc1 : (c != cr) = true) :
    Calls Try.prog 53 #[.pointer (some ⟨g, 0, none⟩), (Tc.mk c ch b k s d).val, .bool room] w fun e w' => e = .returned (.tuple #[.bool false, .int .i64 2]) ∧ Keep [g] w w' ∧ Blk w' g (Fm.mk cr hf ⟨fc, lo, wa, re, by_, nx⟩).cells 112 := by
  have hP := Put_any (Tc.mk c ch b k s d)
  obtain ⟨hk1, hk2, hk3, hk4, hk5, hk6⟩ := hok
  have hlt : g < w.heap.size := hB.lt
  have hne : ((Fm.mk cr hf ⟨fc, lo, wa, re, by_, nx⟩).half == 0) = false := by
    have : hf ≠ 0 := by simp only at hk1; omega
    simpa using this
  have hnone := fun w h => none_any (Fm.mk cr hf ⟨fc, lo, wa, re, by_, nx⟩) g w false hne h
  clear hne
  have hsq : (Tc.mk c ch b k s d).good = true → 0 ≤ s ∧ s ≤ 255 := fun h => by have := (Tc.good_iff _).1 h; simp only at this; omega
  unfold Tc.putV at hP
  obtain ⟨s0, hs0⟩ : ∃ s0 : ByteArray, strOf (Tc.mk c ch b k s d).enc = .string s0 := ⟨_, rfl⟩
  rw [hs0] at hP
  clear hs0
  rw [hg] at hP
  obtain ⟨hs0, hs2⟩ := hsq hg
  clear hg hsq
  simp only [Tc.val] at hP hk1 hk2 hk3 hk4 hk5 hk6 ⊢
  have HP := Lib.hid hP; have HN := Lib.hid hnone; clear hP hnone
  have HK := Lib.hid ((Keep.refl [g] w).alloc (Obj.cells #[.int .i64 c, .int .i64 ch, .bool b, .bool k, .int .i64 s, .string d] 31))
  have HF := Lib.hid (hB.alloc (Obj.cells #[.int .i64 c, .int .i64 ch, .bool b, .bool k, .int .i64 s, .string d] 31))
  have HX := Lib.hid (Blk.new w [.int .i64 c, .int .i64 ch, .bool b, .bool k, .int .i64 s, .string d] 31)
  clear hB
  go_enter Try.func53, Try.ntmps53
  go_wp2_with fail
  refine (HN.out _ HF.out).mono ?_
  rintro e w1 ⟨rfl, rfl⟩
  go_wp2_with fail
  refine (HP.out _).mono ?_
  rintro e w1 ⟨rfl, hL1⟩
  have HK1 := Lib.hid (HK.out.below hL1 (by simp))
  have HF1 := Lib.hid (HF.out.below hL1 (by simp; omega))
  have HX1 := Lib.hid (HX.out.below hL1 (by simp))
  have hs1 : w.heap.size + 1 ≤ w1.heap.size := by have := hL1.size; simp at this; omega
  clear hL1
  have c0 := HF1.out.cell 0
  have c1 := HF1.out.cell 1
  have c2 := HF1.out.cell 2
  have c3 := HF1.out.cell 3
  have c4 := HF1.out.cell 4
  have c5 := HF1.out.cell 5
  have c6 := HF1.out.cell 6
  have c7 := HF1.out.cell 7
  simp only [Fm.cells, List.getElem?_cons_zero, List.getElem?_cons_succ] at c0 c1 c2 c3 c4 c5 c6 c7
  have x0 := HX1.out.cell 0
  have x1 := HX1.out.cell 1
  have x2 := HX1.out.cell 2
  have x3 := HX1.out.cell 3
  have x4 := HX1.out.cell 4
  have x5 := HX1.out.cell 5
  simp only [List.getElem?_cons_zero, List.getElem?_cons_succ] at x0 x1 x2 x3 x4 x5
  go_wp2_with fail
  go_quiet (fail)
  go_wp2_with fail
  go_ret2
  exact ⟨rfl, HK1.out.drewN _, HF1.out.drewN _⟩
set_option maxHeartbeats 4000000 in
set_option maxRecDepth 100000 in
theorem Take_chan (c ch : Int) (b k : Bool) (s : Int) (d : ByteArray) (cr hf fc : Int) (lo wa re : Bool) (by_ nx : Int) (room : Bool) (g : Nat) (w : World) (hok : (Fm.mk cr hf ⟨fc, lo, wa, re, by_, nx⟩).ok) (hB : Blk w g (Fm.mk cr hf ⟨fc, lo, wa, re, by_, nx⟩).cells 112)
    (hg : (Tc.mk c ch b k s d).good = true) (hc1 : c = cr) (hc2 : (ch != fc) = true) :
    Calls Try.prog 53 #[.pointer (some ⟨g, 0, none⟩), (Tc.mk c ch b k s d).val, .bool room] w fun e w' => e = .returned (.tuple #[.bool false, .int .i64 2]) ∧ Keep [g] w w' ∧ Blk w' g (Fm.mk cr hf ⟨fc, lo, wa, re, by_, nx⟩).cells 112 := by
  have hP := Put_any (Tc.mk c ch b k s d)
  obtain ⟨hk1, hk2, hk3, hk4, hk5, hk6⟩ := hok
  have hlt : g < w.heap.size := hB.lt
  have hne : ((Fm.mk cr hf ⟨fc, lo, wa, re, by_, nx⟩).half == 0) = false := by
    have : hf ≠ 0 := by simp only at hk1; omega
    simpa using this
  have hnone := fun w h => none_any (Fm.mk cr hf ⟨fc, lo, wa, re, by_, nx⟩) g w false hne h
  clear hne
  have hsq : (Tc.mk c ch b k s d).good = true → 0 ≤ s ∧ s ≤ 255 := fun h => by have := (Tc.good_iff _).1 h; simp only at this; omega
  unfold Tc.putV at hP
  obtain ⟨s0, hs0⟩ : ∃ s0 : ByteArray, strOf (Tc.mk c ch b k s d).enc = .string s0 := ⟨_, rfl⟩
  rw [hs0] at hP
  clear hs0
  rw [hg] at hP
  obtain ⟨hs0, hs2⟩ := hsq hg
  clear hg hsq
  subst hc1
  simp only [Tc.val] at hP hk1 hk2 hk3 hk4 hk5 hk6 ⊢
  have HP := Lib.hid hP; have HN := Lib.hid hnone; clear hP hnone
  have HK := Lib.hid ((Keep.refl [g] w).alloc (Obj.cells #[.int .i64 c, .int .i64 ch, .bool b, .bool k, .int .i64 s, .string d] 31))
  have HF := Lib.hid (hB.alloc (Obj.cells #[.int .i64 c, .int .i64 ch, .bool b, .bool k, .int .i64 s, .string d] 31))
  have HX := Lib.hid (Blk.new w [.int .i64 c, .int .i64 ch, .bool b, .bool k, .int .i64 s, .string d] 31)
  clear hB
  go_enter Try.func53, Try.ntmps53
  go_wp2_with fail
  refine (HN.out _ HF.out).mono ?_
  rintro e w1 ⟨rfl, rfl⟩
  go_wp2_with fail
  refine (HP.out _).mono ?_
  rintro e w1 ⟨rfl, hL1⟩
  have HK1 := Lib.hid (HK.out.below hL1 (by simp))
  have HF1 := Lib.hid (HF.out.below hL1 (by simp; omega))
  have HX1 := Lib.hid (HX.out.below hL1 (by simp))
  have hs1 : w.heap.size + 1 ≤ w1.heap.size := by have := hL1.size; simp at this; omega
  clear hL1
  have c0 := HF1.out.cell 0
  have c1 := HF1.out.cell 1
  have c2 := HF1.out.cell 2
  have c3 := HF1.out.cell 3
  have c4 := HF1.out.cell 4
  have c5 := HF1.out.cell 5
  have c6 := HF1.out.cell 6
  have c7 := HF1.out.cell 7
  simp only [Fm.cells, List.getElem?_cons_zero, List.getElem?_cons_succ] at c0 c1 c2 c3 c4 c5 c6 c7
  have x0 := HX1.out.cell 0
  have x1 := HX1.out.cell 1
  have x2 := HX1.out.cell 2
  have x3 := HX1.out.cell 3
  have x4 := HX1.out.cell 4
  have x5 := HX1.out.cell 5
  simp only [List.getElem?_cons_zero, List.getElem?_cons_succ] at x0 x1 x2 x3 x4 x5
  go_wp2_with fail
  go_quiet (fail)
  go_wp2_with fail
  go_ret2
  exact ⟨rfl, HK1.out.drewN _, HF1.out.drewN _⟩
set_option maxHeartbeats 4000000 in
set_option maxRecDepth 100000 in
theorem Take_by (c ch : Int) (k : Bool) (s : Int) (d : ByteArray) (hf : Int) (lo wa re : Bool) (by_ nx : Int) (room : Bool) (g : Nat) (w : World) (hok : (Fm.mk c hf ⟨ch, lo, wa, re, by_, nx⟩).ok) (hB : Blk w g (Fm.mk c hf ⟨ch, lo, wa, re, by_, nx⟩).cells 112)
    (hg : (Tc.mk c ch true k s d).good = true) :
    Calls Try.prog 53 #[.pointer (some ⟨g, 0, none⟩), (Tc.mk c ch true k s d).val, .bool room] w fun e w' => e = .returned (.tuple #[.bool (bypassF (Fm.mk c hf ⟨ch, lo, wa, re, by_, nx⟩) (Tc.mk c ch true k s d)).2.1, .int .i64 (bypassF (Fm.mk c hf ⟨ch, lo, wa, re, by_, nx⟩) (Tc.mk c ch true k s d)).2.2]) ∧ Keep [g] w w' ∧ Blk w' g (bypassF (Fm.mk c hf ⟨ch, lo, wa, re, by_, nx⟩) (Tc.mk c ch true k s d)).1.cells 112 := by
  have hP := Put_any (Tc.mk c ch true k s d)
  obtain ⟨hk1, hk2, hk3, hk4, hk5, hk6⟩ := hok
  have hlt : g < w.heap.size := hB.lt
  have hne : ((Fm.mk c hf ⟨ch, lo, wa, re, by_, nx⟩).half == 0) = false := by
    have : hf ≠ 0 := by simp only at hk1; omega
    simpa using this
  have hnone := fun w h => none_any (Fm.mk c hf ⟨ch, lo, wa, re, by_, nx⟩) g w false hne h
  clear hne
  have hsq : (Tc.mk c ch true k s d).good = true → 0 ≤ s ∧ s ≤ 255 := fun h => by have := (Tc.good_iff _).1 h; simp only at this; omega
  unfold Tc.putV at hP
  obtain ⟨s0, hs0⟩ : ∃ s0 : ByteArray, strOf (Tc.mk c ch true k s d).enc = .string s0 := ⟨_, rfl⟩
  rw [hs0] at hP
  clear hs0
  have hby := fun w h => bypass_any (Fm.mk c hf ⟨ch, lo, wa, re, by_, nx⟩) (Tc.mk c ch true k s d) g w hk3 hk4 h
  simp only [Tc.val] at hby
  have HY := Lib.hid hby; clear hby
  rw [hg] at hP
  obtain ⟨hs0, hs2⟩ := hsq hg
  clear hg hsq
  simp only [Tc.val] at hP hk1 hk2 hk3 hk4 hk5 hk6 ⊢
  have HP := Lib.hid hP; have HN := Lib.hid hnone; clear hP hnone
  have HK := Lib.hid ((Keep.refl [g] w).alloc (Obj.cells #[.int .i64 c, .int .i64 ch, .bool true, .bool k, .int .i64 s, .string d] 31))
  have HF := Lib.hid (hB.alloc (Obj.cells #[.int .i64 c, .int .i64 ch, .bool true, .bool k, .int .i64 s, .string d] 31))
  have HX := Lib.hid (Blk.new w [.int .i64 c, .int .i64 ch, .bool true, .bool k, .int .i64 s, .string d] 31)
  clear hB
  go_enter Try.func53, Try.ntmps53
  go_wp2_with fail
  refine (HN.out _ HF.out).mono ?_
  rintro e w1 ⟨rfl, rfl⟩
  go_wp2_with fail
  refine (HP.out _).mono ?_
  rintro e w1 ⟨rfl, hL1⟩
  have HK1 := Lib.hid (HK.out.below hL1 (by simp))
  have HF1 := Lib.hid (HF.out.below hL1 (by simp; omega))
  have HX1 := Lib.hid (HX.out.below hL1 (by simp))
  have hs1 : w.heap.size + 1 ≤ w1.heap.size := by have := hL1.size; simp at this; omega
  clear hL1
  have c0 := HF1.out.cell 0
  have c1 := HF1.out.cell 1
  have c2 := HF1.out.cell 2
  have c3 := HF1.out.cell 3
  have c4 := HF1.out.cell 4
  have c5 := HF1.out.cell 5
  have c6 := HF1.out.cell 6
  have c7 := HF1.out.cell 7
  simp only [Fm.cells, List.getElem?_cons_zero, List.getElem?_cons_succ] at c0 c1 c2 c3 c4 c5 c6 c7
  have x0 := HX1.out.cell 0
  have x1 := HX1.out.cell 1
  have x2 := HX1.out.cell 2
  have x3 := HX1.out.cell 3
  have x4 := HX1.out.cell 4
  have x5 := HX1.out.cell 5
  simp only [List.getElem?_cons_zero, List.getElem?_cons_succ] at x0 x1 x2 x3 x4 x5
  go_wp2_with fail
  go_quiet (fail)
  refine gen_post (fun w' => Keep [g] w w' ∧ Blk w' g (Fm.mk c hf ⟨ch, lo, wa, re, by_, nx⟩).cells 112 ∧ Blk w' w.heap.size [.int .i64 c, .int .i64 ch, .bool true, .bool k, .int .i64 s, .string d] 31 ∧ w.heap.size + 1 ≤ w'.heap.size) ⟨HK1.out.drewN _, HF1.out.drewN _, HX1.out.drewN _, hs1⟩ ?_
  clear HK1 HF1 HX1 hs1 c0 c1 c2 c3 c4 c5 c6 c7 x0 x1 x2 x3 x4 x5
  rintro w2 ⟨hK2, hF2, hX2, hs2'⟩
  have HK2 := Lib.hid hK2; have HF2 := Lib.hid hF2; have HX2 := Lib.hid hX2; clear hK2 hF2 hX2
  have c0 := HF2.out.cell 0
  have c1 := HF2.out.cell 1
  have c2 := HF2.out.cell 2
  have c3 := HF2.out.cell 3
  have c4 := HF2.out.cell 4
  have c5 := HF2.out.cell 5
  have c6 := HF2.out.cell 6
  have c7 := HF2.out.cell 7
  simp only [Fm.cells, List.getElem?_cons_zero, List.getElem?_cons_succ] at c0 c1 c2 c3 c4 c5 c6 c7
  have x0 := HX2.out.cell 0
  have x1 := HX2.out.cell 1
  have x2 := HX2.out.cell 2
  have x3 := HX2.out.cell 3
  have x4 := HX2.out.cell 4
  have x5 := HX2.out.cell 5
  simp only [List.getElem?_cons_zero, List.getElem?_cons_succ] at x0 x1 x2 x3 x4 x5
  go_wp2_with fail
  refine (HY.out _ HF2.out).mono ?_
  rintro e w3 ⟨rfl, hK3, hF3⟩
  have HK3 := Lib.hid (HK2.out.trans hK3)
  have HF3 := Lib.hid hF3
  clear hK3 hF3
  go_wp2_with fail
  go_ret2
  exact ⟨rfl, HK3.out, HF3.out⟩
end Go.Proofs.Ytbncejmohhejlaa
