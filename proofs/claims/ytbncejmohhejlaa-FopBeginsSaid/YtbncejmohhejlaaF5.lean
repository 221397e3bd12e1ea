/- What is proved here: the walk of Take for a frame with a number. -/
import Derived.Test.YtbncejmohhejlaaF4
set_option linter.unusedVariables false
set_option linter.unusedSimpArgs false
namespace Go.Proofs.Ytbncejmohhejlaa
open Go.RowKit
attribute [local go_sem] store_fn0 store_fn1
set_option maxHeartbeats 4000000 in
set_option maxRecDepth 100000 in
theorem Take_seq (c ch : Int) (k : Bool) (s : Int) (d : ByteArray) (hf : Int) (lo wa re : Bool) (by_ nx : Int) (room : Bool) (g : Nat) (w : World) (hok : (Fm.mk c hf ⟨ch, lo, wa, re, by_, nx⟩).ok) (hB : Blk w g (Fm.mk c hf ⟨ch, lo, wa, re, by_, nx⟩).cells 112)
    (hg : (Tc.mk c ch false k s d).good = true) :
    Calls Try.prog 53 #[.pointer (some ⟨g, 0, none⟩), (Tc.mk c ch false k s d).val, .bool room] w fun e w' => e = .returned (.tuple #[.bool ((doF (Fm.mk c hf ⟨ch, lo, wa, re, by_, nx⟩) (firstAct (Fm.mk c hf ⟨ch, lo, wa, re, by_, nx⟩) ((s - nx) % 256) room)).st.next != nx), .int .i64 0]) ∧ Keep [g] w w' ∧ Blk w' g (doF (Fm.mk c hf ⟨ch, lo, wa, re, by_, nx⟩) (firstAct (Fm.mk c hf ⟨ch, lo, wa, re, by_, nx⟩) ((s - nx) % 256) room)).cells 112 := by
  have hP := Put_any (Tc.mk c ch false k s d)
  obtain ⟨hk1, hk2, hk3, hk4, hk5, hk6⟩ := hok
  have hlt : g < w.heap.size := hB.lt
  have hne : ((Fm.mk c hf ⟨ch, lo, wa, re, by_, nx⟩).half == 0) = false := by
    have : hf ≠ 0 := by simp only at hk1; omega
    simpa using this
  have hnone := fun w h => none_any (Fm.mk c hf ⟨ch, lo, wa, re, by_, nx⟩) g w false hne h
  clear hne
  have hsq : (Tc.mk c ch false k s d).good = true → 0 ≤ s ∧ s ≤ 255 := fun h => by have := (Tc.good_iff _).1 h; simp only at this; omega
  unfold Tc.putV at hP
  obtain ⟨s0, hs0⟩ : ∃ s0 : ByteArray, strOf (Tc.mk c ch false k s d).enc = .string s0 := ⟨_, rfl⟩
  rw [hs0] at hP
  clear hs0
  rw [hg] at hP
  obtain ⟨hs0, hs2⟩ := hsq hg
  clear hg hsq
  obtain ⟨a, ha⟩ : ∃ a, a = (s - nx) % 256 := ⟨_, rfl⟩
  have hand : bits .and .i64 (s - nx) 255 = a := by rw [ha]; exact and255' _ (by simp only at hk6; omega) (by simp only at hk5; omega)
  have ha0 : 0 ≤ a := by omega
  have ha1 : a ≤ 255 := by omega
  rw [← ha]
  clear ha
  obtain ⟨fa, hfa⟩ : ∃ fa, fa = firstAct (Fm.mk c hf ⟨ch, lo, wa, re, by_, nx⟩) a room := ⟨_, rfl⟩
  have hwh : ∀ k, k ≤ fa → whenB (Fm.mk c hf ⟨ch, lo, wa, re, by_, nx⟩) a room k = decide (k = fa) := fun k h => by rw [hfa] at h ⊢; exact firstAct_when _ _ _ k h
  have hfl : fa ≤ 5 := by rw [hfa]; exact firstAct_le _ _ _
  rw [← hfa]
  have HWH := Lib.hid hwh
  clear hfa hwh
  have hkn : nx ≤ 255 := hk6
  simp only [Tc.val] at hP hk1 hk2 hk3 hk4 hk5 hk6 ⊢
  have HP := Lib.hid hP; have HN := Lib.hid hnone; clear hP hnone
  have HK := Lib.hid ((Keep.refl [g] w).alloc (Obj.cells #[.int .i64 c, .int .i64 ch, .bool false, .bool k, .int .i64 s, .string d] 31))
  have HF := Lib.hid (hB.alloc (Obj.cells #[.int .i64 c, .int .i64 ch, .bool false, .bool k, .int .i64 s, .string d] 31))
  have HX := Lib.hid (Blk.new w [.int .i64 c, .int .i64 ch, .bool false, .bool k, .int .i64 s, .string d] 31)
  clear hB
  go_enter Try.func53, Try.ntmps53
  go_wp2_with fail
  refine (HN.out _ HF.out).mono ?_
  rintro e w1 ⟨rfl, rfl⟩
  go_wp2_with fail
  refine (HP.out _).mono ?_
  rintro e w1 ⟨rfl, hL1⟩
  have HK1 := Lib.hid (HK.out.below hL1 (by simp))
  have HF1 := Lib.hid (HF.out.below hL1 (by simp; omega))
  have HX1 := Lib.hid (HX.out.below hL1 (by simp))
  have hs1 : w.heap.size + 1 ≤ w1.heap.size := by have := hL1.size; simp at this; omega
  clear hL1
  have c0 := HF1.out.cell 0
  have c1 := HF1.out.cell 1
  have c2 := HF1.out.cell 2
  have c3 := HF1.out.cell 3
  have c4 := HF1.out.cell 4
  have c5 := HF1.out.cell 5
  have c6 := HF1.out.cell 6
  have c7 := HF1.out.cell 7
  simp only [Fm.cells, List.getElem?_cons_zero, List.getElem?_cons_succ] at c0 c1 c2 c3 c4 c5 c6 c7
  have x0 := HX1.out.cell 0
  have x1 := HX1.out.cell 1
  have x2 := HX1.out.cell 2
  have x3 := HX1.out.cell 3
  have x4 := HX1.out.cell 4
  have x5 := HX1.out.cell 5
  simp only [List.getElem?_cons_zero, List.getElem?_cons_succ] at x0 x1 x2 x3 x4 x5
  go_wp2_with fail
  go_quiet (fail)
  refine gen_post (fun w' => Keep [g] w w' ∧ Blk w' g (Fm.mk c hf ⟨ch, lo, wa, re, by_, nx⟩).cells 112 ∧ Blk w' w.heap.size [.int .i64 c, .int .i64 ch, .bool false, .bool k, .int .i64 s, .string d] 31 ∧ w.heap.size + 1 ≤ w'.heap.size) ⟨HK1.out.drewN _, HF1.out.drewN _, HX1.out.drewN _, hs1⟩ ?_
  clear HK1 HF1 HX1 hs1 c0 c1 c2 c3 c4 c5 c6 c7 x0 x1 x2 x3 x4 x5
  rintro w2 ⟨hK2, hF2, hX2, hs2'⟩
  have HK2 := Lib.hid hK2; have HF2 := Lib.hid hF2; have HX2 := Lib.hid hX2; clear hK2 hF2 hX2
  have c0 := HF2.out.cell 0
  have c1 := HF2.out.cell 1
  have c2 := HF2.out.cell 2
  have c3 := HF2.out.cell 3
  have c4 := HF2.out.cell 4
  have c5 := HF2.out.cell 5
  have c6 := HF2.out.cell 6
  have c7 := HF2.out.cell 7
  simp only [Fm.cells, List.getElem?_cons_zero, List.getElem?_cons_succ] at c0 c1 c2 c3 c4 c5 c6 c7
  have x0 := HX2.out.cell 0
  have x1 := HX2.out.cell 1
  have x2 := HX2.out.cell 2
  have x3 := HX2.out.cell 3
  have x4 := HX2.out.cell 4
  have x5 := HX2.out.cell 5
  simp only [List.getElem?_cons_zero, List.getElem?_cons_succ] at x0 x1 x2 x3 x4 x5
  have hwr : IntKind.i64.wrap (s - nx) = s - nx := IntWalk.i64_in _ (by omega)
  have HFA := Lib.hid (HF2.out.alloc (Obj.cells #[.int .i64 0, .bool false] 123))
  have HXA := Lib.hid (HX2.out.alloc (Obj.cells #[.int .i64 0, .bool false] 123))
  have q0 := HFA.out.cell 0
  have q1 := HFA.out.cell 1
  have q2 := HFA.out.cell 2
  have q3 := HFA.out.cell 3
  have q4 := HFA.out.cell 4
  have q5 := HFA.out.cell 5
  have q6 := HFA.out.cell 6
  have q7 := HFA.out.cell 7
  simp only [Fm.cells, List.getElem?_cons_zero, List.getElem?_cons_succ] at q0 q1 q2 q3 q4 q5 q6 q7
  have r0 := HXA.out.cell 0
  have r1 := HXA.out.cell 1
  have r2 := HXA.out.cell 2
  have r3 := HXA.out.cell 3
  have r4 := HXA.out.cell 4
  have r5 := HXA.out.cell 5
  simp only [List.getElem?_cons_zero, List.getElem?_cons_succ] at r0 r1 r2 r3 r4 r5
  go_wp2_with fail
  go_region
  obtain ⟨sB, hsB⟩ : ∃ sB, sB = w2.heap.size := ⟨_, rfl⟩
  refine gen_post (fun w' => Keep [g] w w' ∧ Blk w' g (Fm.mk c hf ⟨ch, lo, wa, re, by_, nx⟩).cells 112 ∧ Blk w' sB [.int .i64 a, .bool room] 123) ⟨(HK2.out.alloc _).drew, (HF2.out.alloc _).drew, by rw [hsB]; exact (Blk.new w2 [.int .i64 a, .bool room] _).drew⟩ ?_
  rw [← hsB]
  have hsB1 : w.heap.size + 1 ≤ sB := by omega
  clear HK2 HF2 HX2 HFA HXA hsB hs2' q0 q1 q2 q3 q4 q5 q6 q7 r0 r1 r2 r3 r4 r5 c0 c1 c2 c3 c4 c5 c6 c7 x0 x1 x2 x3 x4 x5
  rintro w3 ⟨hK3, hF3, hS3⟩
  have HK3 := Lib.hid hK3; have HF3 := Lib.hid hF3; have HS3 := Lib.hid hS3; clear hK3 hF3 hS3
  clear hand hwr HP HN HK HF HX
  go_wp2_with fail
  refine (actions_any w3).mono ?_
  rintro e w4 ⟨rfl, hL4, hA4⟩
  obtain ⟨aB, haB⟩ : ∃ aB, aB = w3.heap.size := ⟨_, rfl⟩
  rw [← haB] at hA4 ⊢
  have hsl : sB < w3.heap.size := HS3.out.lt
  have hgl : g < w3.heap.size := HF3.out.lt
  have haB1 : w.heap.size + 1 ≤ aB := by omega
  have haB2 : sB < aB := by omega
  have HK4 := Lib.hid (HK3.out.below hL4 (by have := HK3.out.size; omega))
  have HF4 := Lib.hid (HF3.out.below hL4 hgl)
  have HS4 := Lib.hid (HS3.out.below hL4 hsl)
  have HA4 := Lib.hid hA4
  clear hL4 hA4 HK3 HF3 HS3 haB hsl hgl
  go_wp2_with fail
  go_loopw [62] (fun i wr => ∃ k : Nat, k ≤ fa ∧ i = .int .i64 k ∧ Keep [g] w wr ∧ Blk wr g (Fm.mk c hf ⟨ch, lo, wa, re, by_, nx⟩).cells 112 ∧ Blk wr sB [.int .i64 a, .bool room] 123 ∧ Blk wr aB acts 129) (fun i _ => (6 - intOf i).toNat)
  case atStart => exact ⟨0, by omega, rfl, HK4.out, HF4.out, HS4.out, HA4.out⟩
  case round =>
    obtain ⟨k, hk, rfl, hK, hF, hS, hA⟩ := hrel
    have HKr := Lib.hid hK; have HFr := Lib.hid hF; have HSr := Lib.hid hS; have HAr := Lib.hid hA
    have hgl : g < wr.heap.size := hF.lt
    have hsl : sB < wr.heap.size := hS.lt
    have hal : aB < wr.heap.size := hA.lt
    have hwl : w.heap.size ≤ wr.heap.size := hK.size
    clear hK hF hS hA
    have hw := HWH.out k hk
    have A0 := HAr.out.cell 0
    have A1 := HAr.out.cell 1
    have A2 := HAr.out.cell 2
    have A3 := HAr.out.cell 3
    have A4 := HAr.out.cell 4
    have A5 := HAr.out.cell 5
    have A6 := HAr.out.cell 6
    have A7 := HAr.out.cell 7
    have A8 := HAr.out.cell 8
    have A9 := HAr.out.cell 9
    have A10 := HAr.out.cell 10
    have A11 := HAr.out.cell 11
    simp only [acts, List.getElem?_cons_zero, List.getElem?_cons_succ] at A0 A1 A2 A3 A4 A5 A6 A7 A8 A9 A10 A11
    have c0 := HFr.out.cell 0
    have c1 := HFr.out.cell 1
    have c2 := HFr.out.cell 2
    have c3 := HFr.out.cell 3
    have c4 := HFr.out.cell 4
    have c5 := HFr.out.cell 5
    have c6 := HFr.out.cell 6
    have c7 := HFr.out.cell 7
    simp only [Fm.cells, List.getElem?_cons_zero, List.getElem?_cons_succ] at c0 c1 c2 c3 c4 c5 c6 c7
    have s0 := HSr.out.cell 0
    have s1 := HSr.out.cell 1
    simp only [List.getElem?_cons_zero, List.getElem?_cons_succ] at s0 s1
    have hk6 : k = 0 ∨ k = 1 ∨ k = 2 ∨ k = 3 ∨ k = 4 ∨ k = 5 := by omega
    rcases hk6 with rfl | rfl | rfl | rfl | rfl | rfl
    · have HA := Lib.hid (HFr.out.alloc (Obj.cells #[.func (.func 65) #[] #[], .func (.func 66) #[] #[]] 129))
      by_cases hkf : fa = 0
      · subst hkf
        rw [show decide (0 = 0) = true from rfl] at hw
        go_wp2_with fail
        refine (when0 (Fm.mk c hf ⟨ch, lo, wa, re, by_, nx⟩) g _ a room HA.out).mono ?_
        rw [hw]
        rintro e w5 ⟨rfl, hL5⟩
        have HK5 := Lib.hid ((HKr.out.alloc (Obj.cells #[.func (.func 65) #[] #[], .func (.func 66) #[] #[]] 129)).below hL5 (by simp; omega))
        have HF5 := Lib.hid ((HFr.out.alloc (Obj.cells #[.func (.func 65) #[] #[], .func (.func 66) #[] #[]] 129)).below hL5 (by simp; omega))
        have HS5 := Lib.hid ((HSr.out.alloc (Obj.cells #[.func (.func 65) #[] #[], .func (.func 66) #[] #[]] 129)).below hL5 (by simp; omega))
        have HA5 := Lib.hid ((HAr.out.alloc (Obj.cells #[.func (.func 65) #[] #[], .func (.func 66) #[] #[]] 129)).below hL5 (by simp; omega))
        have HT5 := Lib.hid ((Blk.new wr [.func (.func 65) #[] #[], .func (.func 66) #[] #[]] 129).below hL5 (by simp))
        clear hL5 hw A0 A1 A2 A3 A4 A5 A6 A7 A8 A9 A10 A11 c0 c1 c2 c3 c4 c5 c6 c7 s0 s1
        have d0 := HF5.out.cell 0
        have d1 := HF5.out.cell 1
        have d2 := HF5.out.cell 2
        have d3 := HF5.out.cell 3
        have d4 := HF5.out.cell 4
        have d5 := HF5.out.cell 5
        have d6 := HF5.out.cell 6
        have d7 := HF5.out.cell 7
        simp only [Fm.cells, List.getElem?_cons_zero, List.getElem?_cons_succ] at d0 d1 d2 d3 d4 d5 d6 d7
        have t0 := HT5.out.cell 0
        have t1 := HT5.out.cell 1
        simp only [List.getElem?_cons_zero, List.getElem?_cons_succ] at t0 t1
        go_wp2_with fail
        refine still_tail 5 (by kernel_rfl) (by kernel_rfl) ?_
        simp only [List.take_succ_cons, List.take_zero, List.drop_succ_cons, List.drop_zero]
        repeat still_step
        refine wpStill_nil ?_
        go_wp2_with fail
        refine (do0 (Fm.mk c hf ⟨ch, lo, wa, re, by_, nx⟩) g _ HF5.out.drew).mono ?_
        rintro e w7 ⟨rfl, hK7, hF7⟩
        have HK7 := Lib.hid (HK5.out.drew.trans hK7)
        have HF7 := Lib.hid hF7
        clear hK7 hF7 t0 t1 d0 d1 d2 d3 d4 d5 d6 d7
        have d0 := HF7.out.cell 0
        have d1 := HF7.out.cell 1
        have d2 := HF7.out.cell 2
        have d3 := HF7.out.cell 3
        have d4 := HF7.out.cell 4
        have d5 := HF7.out.cell 5
        have d6 := HF7.out.cell 6
        have d7 := HF7.out.cell 7
        simp only [Fm.cells, doF, List.getElem?_cons_zero, List.getElem?_cons_succ] at d0 d1 d2 d3 d4 d5 d6 d7
        go_wp2_with fail
        go_ret2
        refine ⟨?_, HK7.out, HF7.out⟩
        first
          | rfl
          | (simp [doF]; done)
          | (simp [doF]; rfl)
      · have hlt6 : 0 < fa := by omega
        rw [show decide (0 = fa) = false by simp; omega] at hw
        go_wp2_with fail
        refine (when0 (Fm.mk c hf ⟨ch, lo, wa, re, by_, nx⟩) g _ a room HA.out).mono ?_
        rw [hw]
        rintro e w5 ⟨rfl, hL5⟩
        have HK5 := Lib.hid ((HKr.out.alloc (Obj.cells #[.func (.func 65) #[] #[], .func (.func 66) #[] #[]] 129)).below hL5 (by simp; omega))
        have HF5 := Lib.hid ((HFr.out.alloc (Obj.cells #[.func (.func 65) #[] #[], .func (.func 66) #[] #[]] 129)).below hL5 (by simp; omega))
        have HS5 := Lib.hid ((HSr.out.alloc (Obj.cells #[.func (.func 65) #[] #[], .func (.func 66) #[] #[]] 129)).below hL5 (by simp; omega))
        have HA5 := Lib.hid ((HAr.out.alloc (Obj.cells #[.func (.func 65) #[] #[], .func (.func 66) #[] #[]] 129)).below hL5 (by simp; omega))
        have HT5 := Lib.hid ((Blk.new wr [.func (.func 65) #[] #[], .func (.func 66) #[] #[]] 129).below hL5 (by simp))
        clear hL5 hw A0 A1 A2 A3 A4 A5 A6 A7 A8 A9 A10 A11 c0 c1 c2 c3 c4 c5 c6 c7 s0 s1
        have d0 := HF5.out.cell 0
        have d1 := HF5.out.cell 1
        have d2 := HF5.out.cell 2
        have d3 := HF5.out.cell 3
        have d4 := HF5.out.cell 4
        have d5 := HF5.out.cell 5
        have d6 := HF5.out.cell 6
        have d7 := HF5.out.cell 7
        simp only [Fm.cells, List.getElem?_cons_zero, List.getElem?_cons_succ] at d0 d1 d2 d3 d4 d5 d6 d7
        have t0 := HT5.out.cell 0
        have t1 := HT5.out.cell 1
        simp only [List.getElem?_cons_zero, List.getElem?_cons_succ] at t0 t1
        go_wp2_with fail
        go_roundw
        case rel => exact ⟨1, by omega, rfl, HK5.out, HF5.out, HS5.out, HA5.out⟩
        case measure => simp [intOf]
    · have HA := Lib.hid (HFr.out.alloc (Obj.cells #[.func (.func 67) #[] #[], .func (.func 68) #[] #[]] 129))
      by_cases hkf : fa = 1
      · subst hkf
        rw [show decide (1 = 1) = true from rfl] at hw
        go_wp2_with fail
        refine (when1 (Fm.mk c hf ⟨ch, lo, wa, re, by_, nx⟩) g _ a room).mono ?_
        rw [hw]
        rintro e w5 ⟨rfl, hL5⟩
        have HK5 := Lib.hid ((HKr.out.alloc (Obj.cells #[.func (.func 67) #[] #[], .func (.func 68) #[] #[]] 129)).below hL5 (by simp; omega))
        have HF5 := Lib.hid ((HFr.out.alloc (Obj.cells #[.func (.func 67) #[] #[], .func (.func 68) #[] #[]] 129)).below hL5 (by simp; omega))
        have HS5 := Lib.hid ((HSr.out.alloc (Obj.cells #[.func (.func 67) #[] #[], .func (.func 68) #[] #[]] 129)).below hL5 (by simp; omega))
        have HA5 := Lib.hid ((HAr.out.alloc (Obj.cells #[.func (.func 67) #[] #[], .func (.func 68) #[] #[]] 129)).below hL5 (by simp; omega))
        have HT5 := Lib.hid ((Blk.new wr [.func (.func 67) #[] #[], .func (.func 68) #[] #[]] 129).below hL5 (by simp))
        clear hL5 hw A0 A1 A2 A3 A4 A5 A6 A7 A8 A9 A10 A11 c0 c1 c2 c3 c4 c5 c6 c7 s0 s1
        have d0 := HF5.out.cell 0
        have d1 := HF5.out.cell 1
        have d2 := HF5.out.cell 2
        have d3 := HF5.out.cell 3
        have d4 := HF5.out.cell 4
        have d5 := HF5.out.cell 5
        have d6 := HF5.out.cell 6
        have d7 := HF5.out.cell 7
        simp only [Fm.cells, List.getElem?_cons_zero, List.getElem?_cons_succ] at d0 d1 d2 d3 d4 d5 d6 d7
        have t0 := HT5.out.cell 0
        have t1 := HT5.out.cell 1
        simp only [List.getElem?_cons_zero, List.getElem?_cons_succ] at t0 t1
        go_wp2_with fail
        refine still_tail 5 (by kernel_rfl) (by kernel_rfl) ?_
        simp only [List.take_succ_cons, List.take_zero, List.drop_succ_cons, List.drop_zero]
        repeat still_step
        refine wpStill_nil ?_
        go_wp2_with fail
        refine (do1 (Fm.mk c hf ⟨ch, lo, wa, re, by_, nx⟩) g _ HF5.out.drew hk5 hkn).mono ?_
        rintro e w7 ⟨rfl, hK7, hF7⟩
        have HK7 := Lib.hid (HK5.out.drew.trans hK7)
        have HF7 := Lib.hid hF7
        clear hK7 hF7 t0 t1 d0 d1 d2 d3 d4 d5 d6 d7
        have d0 := HF7.out.cell 0
        have d1 := HF7.out.cell 1
        have d2 := HF7.out.cell 2
        have d3 := HF7.out.cell 3
        have d4 := HF7.out.cell 4
        have d5 := HF7.out.cell 5
        have d6 := HF7.out.cell 6
        have d7 := HF7.out.cell 7
        simp only [Fm.cells, doF, List.getElem?_cons_zero, List.getElem?_cons_succ] at d0 d1 d2 d3 d4 d5 d6 d7
        go_wp2_with fail
        go_ret2
        refine ⟨?_, HK7.out, HF7.out⟩
        first
          | rfl
          | (simp [doF]; done)
          | (simp [doF]; rfl)
      · have hlt6 : 1 < fa := by omega
        rw [show decide (1 = fa) = false by simp; omega] at hw
        go_wp2_with fail
        refine (when1 (Fm.mk c hf ⟨ch, lo, wa, re, by_, nx⟩) g _ a room).mono ?_
        rw [hw]
        rintro e w5 ⟨rfl, hL5⟩
        have HK5 := Lib.hid ((HKr.out.alloc (Obj.cells #[.func (.func 67) #[] #[], .func (.func 68) #[] #[]] 129)).below hL5 (by simp; omega))
        have HF5 := Lib.hid ((HFr.out.alloc (Obj.cells #[.func (.func 67) #[] #[], .func (.func 68) #[] #[]] 129)).below hL5 (by simp; omega))
        have HS5 := Lib.hid ((HSr.out.alloc (Obj.cells #[.func (.func 67) #[] #[], .func (.func 68) #[] #[]] 129)).below hL5 (by simp; omega))
        have HA5 := Lib.hid ((HAr.out.alloc (Obj.cells #[.func (.func 67) #[] #[], .func (.func 68) #[] #[]] 129)).below hL5 (by simp; omega))
        have HT5 := Lib.hid ((Blk.new wr [.func (.func 67) #[] #[], .func (.func 68) #[] #[]] 129).below hL5 (by simp))
        clear hL5 hw A0 A1 A2 A3 A4 A5 A6 A7 A8 A9 A10 A11 c0 c1 c2 c3 c4 c5 c6 c7 s0 s1
        have d0 := HF5.out.cell 0
        have d1 := HF5.out.cell 1
        have d2 := HF5.out.cell 2
        have d3 := HF5.out.cell 3
        have d4 := HF5.out.cell 4
        have d5 := HF5.out.cell 5
        have d6 := HF5.out.cell 6
        have d7 := HF5.out.cell 7
        simp only [Fm.cells, List.getElem?_cons_zero, List.getElem?_cons_succ] at d0 d1 d2 d3 d4 d5 d6 d7
        have t0 := HT5.out.cell 0
        have t1 := HT5.out.cell 1
        simp only [List.getElem?_cons_zero, List.getElem?_cons_succ] at t0 t1
        go_wp2_with fail
        go_roundw
        case rel => exact ⟨2, by omega, rfl, HK5.out, HF5.out, HS5.out, HA5.out⟩
        case measure => simp [intOf]
    · have HA := Lib.hid (HFr.out.alloc (Obj.cells #[.func (.func 69) #[] #[], .func (.func 70) #[] #[]] 129))
      by_cases hkf : fa = 2
      · subst hkf
        rw [show decide (2 = 2) = true from rfl] at hw
        go_wp2_with fail
        refine (when2 (Fm.mk c hf ⟨ch, lo, wa, re, by_, nx⟩) g _ a room).mono ?_
        rw [hw]
        rintro e w5 ⟨rfl, hL5⟩
        have HK5 := Lib.hid ((HKr.out.alloc (Obj.cells #[.func (.func 69) #[] #[], .func (.func 70) #[] #[]] 129)).below hL5 (by simp; omega))
        have HF5 := Lib.hid ((HFr.out.alloc (Obj.cells #[.func (.func 69) #[] #[], .func (.func 70) #[] #[]] 129)).below hL5 (by simp; omega))
        have HS5 := Lib.hid ((HSr.out.alloc (Obj.cells #[.func (.func 69) #[] #[], .func (.func 70) #[] #[]] 129)).below hL5 (by simp; omega))
        have HA5 := Lib.hid ((HAr.out.alloc (Obj.cells #[.func (.func 69) #[] #[], .func (.func 70) #[] #[]] 129)).below hL5 (by simp; omega))
        have HT5 := Lib.hid ((Blk.new wr [.func (.func 69) #[] #[], .func (.func 70) #[] #[]] 129).below hL5 (by simp))
        clear hL5 hw A0 A1 A2 A3 A4 A5 A6 A7 A8 A9 A10 A11 c0 c1 c2 c3 c4 c5 c6 c7 s0 s1
        have d0 := HF5.out.cell 0
        have d1 := HF5.out.cell 1
        have d2 := HF5.out.cell 2
        have d3 := HF5.out.cell 3
        have d4 := HF5.out.cell 4
        have d5 := HF5.out.cell 5
        have d6 := HF5.out.cell 6
        have d7 := HF5.out.cell 7
        simp only [Fm.cells, List.getElem?_cons_zero, List.getElem?_cons_succ] at d0 d1 d2 d3 d4 d5 d6 d7
        have t0 := HT5.out.cell 0
        have t1 := HT5.out.cell 1
        simp only [List.getElem?_cons_zero, List.getElem?_cons_succ] at t0 t1
        go_wp2_with fail
        refine still_tail 5 (by kernel_rfl) (by kernel_rfl) ?_
        simp only [List.take_succ_cons, List.take_zero, List.drop_succ_cons, List.drop_zero]
        repeat still_step
        refine wpStill_nil ?_
        go_wp2_with fail
        refine (do2 (Fm.mk c hf ⟨ch, lo, wa, re, by_, nx⟩) g _ HF5.out.drew).mono ?_
        rintro e w7 ⟨rfl, hK7, hF7⟩
        have HK7 := Lib.hid (HK5.out.drew.trans hK7)
        have HF7 := Lib.hid hF7
        clear hK7 hF7 t0 t1 d0 d1 d2 d3 d4 d5 d6 d7
        have d0 := HF7.out.cell 0
        have d1 := HF7.out.cell 1
        have d2 := HF7.out.cell 2
        have d3 := HF7.out.cell 3
        have d4 := HF7.out.cell 4
        have d5 := HF7.out.cell 5
        have d6 := HF7.out.cell 6
        have d7 := HF7.out.cell 7
        simp only [Fm.cells, doF, List.getElem?_cons_zero, List.getElem?_cons_succ] at d0 d1 d2 d3 d4 d5 d6 d7
        go_wp2_with fail
        go_ret2
        refine ⟨?_, HK7.out, HF7.out⟩
        first
          | rfl
          | (simp [doF]; done)
          | (simp [doF]; rfl)
      · have hlt6 : 2 < fa := by omega
        rw [show decide (2 = fa) = false by simp; omega] at hw
        go_wp2_with fail
        refine (when2 (Fm.mk c hf ⟨ch, lo, wa, re, by_, nx⟩) g _ a room).mono ?_
        rw [hw]
        rintro e w5 ⟨rfl, hL5⟩
        have HK5 := Lib.hid ((HKr.out.alloc (Obj.cells #[.func (.func 69) #[] #[], .func (.func 70) #[] #[]] 129)).below hL5 (by simp; omega))
        have HF5 := Lib.hid ((HFr.out.alloc (Obj.cells #[.func (.func 69) #[] #[], .func (.func 70) #[] #[]] 129)).below hL5 (by simp; omega))
        have HS5 := Lib.hid ((HSr.out.alloc (Obj.cells #[.func (.func 69) #[] #[], .func (.func 70) #[] #[]] 129)).below hL5 (by simp; omega))
        have HA5 := Lib.hid ((HAr.out.alloc (Obj.cells #[.func (.func 69) #[] #[], .func (.func 70) #[] #[]] 129)).below hL5 (by simp; omega))
        have HT5 := Lib.hid ((Blk.new wr [.func (.func 69) #[] #[], .func (.func 70) #[] #[]] 129).below hL5 (by simp))
        clear hL5 hw A0 A1 A2 A3 A4 A5 A6 A7 A8 A9 A10 A11 c0 c1 c2 c3 c4 c5 c6 c7 s0 s1
        have d0 := HF5.out.cell 0
        have d1 := HF5.out.cell 1
        have d2 := HF5.out.cell 2
        have d3 := HF5.out.cell 3
        have d4 := HF5.out.cell 4
        have d5 := HF5.out.cell 5
        have d6 := HF5.out.cell 6
        have d7 := HF5.out.cell 7
        simp only [Fm.cells, List.getElem?_cons_zero, List.getElem?_cons_succ] at d0 d1 d2 d3 d4 d5 d6 d7
        have t0 := HT5.out.cell 0
        have t1 := HT5.out.cell 1
        simp only [List.getElem?_cons_zero, List.getElem?_cons_succ] at t0 t1
        go_wp2_with fail
        go_roundw
        case rel => exact ⟨3, by omega, rfl, HK5.out, HF5.out, HS5.out, HA5.out⟩
        case measure => simp [intOf]
    · have HA := Lib.hid (HFr.out.alloc (Obj.cells #[.func (.func 71) #[] #[], .func (.func 72) #[] #[]] 129))
      by_cases hkf : fa = 3
      · subst hkf
        rw [show decide (3 = 3) = true from rfl] at hw
        go_wp2_with fail
        refine (when3 (Fm.mk c hf ⟨ch, lo, wa, re, by_, nx⟩) g _ a room HA.out).mono ?_
        rw [hw]
        rintro e w5 ⟨rfl, hL5⟩
        have HK5 := Lib.hid ((HKr.out.alloc (Obj.cells #[.func (.func 71) #[] #[], .func (.func 72) #[] #[]] 129)).below hL5 (by simp; omega))
        have HF5 := Lib.hid ((HFr.out.alloc (Obj.cells #[.func (.func 71) #[] #[], .func (.func 72) #[] #[]] 129)).below hL5 (by simp; omega))
        have HS5 := Lib.hid ((HSr.out.alloc (Obj.cells #[.func (.func 71) #[] #[], .func (.func 72) #[] #[]] 129)).below hL5 (by simp; omega))
        have HA5 := Lib.hid ((HAr.out.alloc (Obj.cells #[.func (.func 71) #[] #[], .func (.func 72) #[] #[]] 129)).below hL5 (by simp; omega))
        have HT5 := Lib.hid ((Blk.new wr [.func (.func 71) #[] #[], .func (.func 72) #[] #[]] 129).below hL5 (by simp))
        clear hL5 hw A0 A1 A2 A3 A4 A5 A6 A7 A8 A9 A10 A11 c0 c1 c2 c3 c4 c5 c6 c7 s0 s1
        have d0 := HF5.out.cell 0
        have d1 := HF5.out.cell 1
        have d2 := HF5.out.cell 2
        have d3 := HF5.out.cell 3
        have d4 := HF5.out.cell 4
        have d5 := HF5.out.cell 5
        have d6 := HF5.out.cell 6
        have d7 := HF5.out.cell 7
        simp only [Fm.cells, List.getElem?_cons_zero, List.getElem?_cons_succ] at d0 d1 d2 d3 d4 d5 d6 d7
        have t0 := HT5.out.cell 0
        have t1 := HT5.out.cell 1
        simp only [List.getElem?_cons_zero, List.getElem?_cons_succ] at t0 t1
        go_wp2_with fail
        refine still_tail 5 (by kernel_rfl) (by kernel_rfl) ?_
        simp only [List.take_succ_cons, List.take_zero, List.drop_succ_cons, List.drop_zero]
        repeat still_step
        refine wpStill_nil ?_
        go_wp2_with fail
        refine (do3 (Fm.mk c hf ⟨ch, lo, wa, re, by_, nx⟩) g _ HF5.out.drew).mono ?_
        rintro e w7 ⟨rfl, hK7, hF7⟩
        have HK7 := Lib.hid (HK5.out.drew.trans hK7)
        have HF7 := Lib.hid hF7
        clear hK7 hF7 t0 t1 d0 d1 d2 d3 d4 d5 d6 d7
        have d0 := HF7.out.cell 0
        have d1 := HF7.out.cell 1
        have d2 := HF7.out.cell 2
        have d3 := HF7.out.cell 3
        have d4 := HF7.out.cell 4
        have d5 := HF7.out.cell 5
        have d6 := HF7.out.cell 6
        have d7 := HF7.out.cell 7
        simp only [Fm.cells, doF, List.getElem?_cons_zero, List.getElem?_cons_succ] at d0 d1 d2 d3 d4 d5 d6 d7
        go_wp2_with fail
        go_ret2
        refine ⟨?_, HK7.out, HF7.out⟩
        first
          | rfl
          | (simp [doF]; done)
          | (simp [doF]; rfl)
      · have hlt6 : 3 < fa := by omega
        rw [show decide (3 = fa) = false by simp; omega] at hw
        go_wp2_with fail
        refine (when3 (Fm.mk c hf ⟨ch, lo, wa, re, by_, nx⟩) g _ a room HA.out).mono ?_
        rw [hw]
        rintro e w5 ⟨rfl, hL5⟩
        have HK5 := Lib.hid ((HKr.out.alloc (Obj.cells #[.func (.func 71) #[] #[], .func (.func 72) #[] #[]] 129)).below hL5 (by simp; omega))
        have HF5 := Lib.hid ((HFr.out.alloc (Obj.cells #[.func (.func 71) #[] #[], .func (.func 72) #[] #[]] 129)).below hL5 (by simp; omega))
        have HS5 := Lib.hid ((HSr.out.alloc (Obj.cells #[.func (.func 71) #[] #[], .func (.func 72) #[] #[]] 129)).below hL5 (by simp; omega))
        have HA5 := Lib.hid ((HAr.out.alloc (Obj.cells #[.func (.func 71) #[] #[], .func (.func 72) #[] #[]] 129)).below hL5 (by simp; omega))
        have HT5 := Lib.hid ((Blk.new wr [.func (.func 71) #[] #[], .func (.func 72) #[] #[]] 129).below hL5 (by simp))
        clear hL5 hw A0 A1 A2 A3 A4 A5 A6 A7 A8 A9 A10 A11 c0 c1 c2 c3 c4 c5 c6 c7 s0 s1
        have d0 := HF5.out.cell 0
        have d1 := HF5.out.cell 1
        have d2 := HF5.out.cell 2
        have d3 := HF5.out.cell 3
        have d4 := HF5.out.cell 4
        have d5 := HF5.out.cell 5
        have d6 := HF5.out.cell 6
        have d7 := HF5.out.cell 7
        simp only [Fm.cells, List.getElem?_cons_zero, List.getElem?_cons_succ] at d0 d1 d2 d3 d4 d5 d6 d7
        have t0 := HT5.out.cell 0
        have t1 := HT5.out.cell 1
        simp only [List.getElem?_cons_zero, List.getElem?_cons_succ] at t0 t1
        go_wp2_with fail
        go_roundw
        case rel => exact ⟨4, by omega, rfl, HK5.out, HF5.out, HS5.out, HA5.out⟩
        case measure => simp [intOf]
    · have HA := Lib.hid (HFr.out.alloc (Obj.cells #[.func (.func 73) #[] #[], .func (.func 74) #[] #[]] 129))
      by_cases hkf : fa = 4
      · subst hkf
        rw [show decide (4 = 4) = true from rfl] at hw
        go_wp2_with fail
        refine (when4 (Fm.mk c hf ⟨ch, lo, wa, re, by_, nx⟩) g _ a room HA.out (by simp only; omega) (by simp only; omega)).mono ?_
        rw [hw]
        rintro e w5 ⟨rfl, hL5⟩
        have HK5 := Lib.hid ((HKr.out.alloc (Obj.cells #[.func (.func 73) #[] #[], .func (.func 74) #[] #[]] 129)).below hL5 (by simp; omega))
        have HF5 := Lib.hid ((HFr.out.alloc (Obj.cells #[.func (.func 73) #[] #[], .func (.func 74) #[] #[]] 129)).below hL5 (by simp; omega))
        have HS5 := Lib.hid ((HSr.out.alloc (Obj.cells #[.func (.func 73) #[] #[], .func (.func 74) #[] #[]] 129)).below hL5 (by simp; omega))
        have HA5 := Lib.hid ((HAr.out.alloc (Obj.cells #[.func (.func 73) #[] #[], .func (.func 74) #[] #[]] 129)).below hL5 (by simp; omega))
        have HT5 := Lib.hid ((Blk.new wr [.func (.func 73) #[] #[], .func (.func 74) #[] #[]] 129).below hL5 (by simp))
        clear hL5 hw A0 A1 A2 A3 A4 A5 A6 A7 A8 A9 A10 A11 c0 c1 c2 c3 c4 c5 c6 c7 s0 s1
        have d0 := HF5.out.cell 0
        have d1 := HF5.out.cell 1
        have d2 := HF5.out.cell 2
        have d3 := HF5.out.cell 3
        have d4 := HF5.out.cell 4
        have d5 := HF5.out.cell 5
        have d6 := HF5.out.cell 6
        have d7 := HF5.out.cell 7
        simp only [Fm.cells, List.getElem?_cons_zero, List.getElem?_cons_succ] at d0 d1 d2 d3 d4 d5 d6 d7
        have t0 := HT5.out.cell 0
        have t1 := HT5.out.cell 1
        simp only [List.getElem?_cons_zero, List.getElem?_cons_succ] at t0 t1
        go_wp2_with fail
        refine still_tail 5 (by kernel_rfl) (by kernel_rfl) ?_
        simp only [List.take_succ_cons, List.take_zero, List.drop_succ_cons, List.drop_zero]
        repeat still_step
        refine wpStill_nil ?_
        go_wp2_with fail
        refine (do4 (Fm.mk c hf ⟨ch, lo, wa, re, by_, nx⟩) g _ HF5.out.drew).mono ?_
        rintro e w7 ⟨rfl, hK7, hF7⟩
        have HK7 := Lib.hid (HK5.out.drew.trans hK7)
        have HF7 := Lib.hid hF7
        clear hK7 hF7 t0 t1 d0 d1 d2 d3 d4 d5 d6 d7
        have d0 := HF7.out.cell 0
        have d1 := HF7.out.cell 1
        have d2 := HF7.out.cell 2
        have d3 := HF7.out.cell 3
        have d4 := HF7.out.cell 4
        have d5 := HF7.out.cell 5
        have d6 := HF7.out.cell 6
        have d7 := HF7.out.cell 7
        simp only [Fm.cells, doF, List.getElem?_cons_zero, List.getElem?_cons_succ] at d0 d1 d2 d3 d4 d5 d6 d7
        go_wp2_with fail
        go_ret2
        refine ⟨?_, HK7.out, HF7.out⟩
        first
          | rfl
          | (simp [doF]; done)
          | (simp [doF]; rfl)
      · have hlt6 : 4 < fa := by omega
        rw [show decide (4 = fa) = false by simp; omega] at hw
        go_wp2_with fail
        refine (when4 (Fm.mk c hf ⟨ch, lo, wa, re, by_, nx⟩) g _ a room HA.out (by simp only; omega) (by simp only; omega)).mono ?_
        rw [hw]
        rintro e w5 ⟨rfl, hL5⟩
        have HK5 := Lib.hid ((HKr.out.alloc (Obj.cells #[.func (.func 73) #[] #[], .func (.func 74) #[] #[]] 129)).below hL5 (by simp; omega))
        have HF5 := Lib.hid ((HFr.out.alloc (Obj.cells #[.func (.func 73) #[] #[], .func (.func 74) #[] #[]] 129)).below hL5 (by simp; omega))
        have HS5 := Lib.hid ((HSr.out.alloc (Obj.cells #[.func (.func 73) #[] #[], .func (.func 74) #[] #[]] 129)).below hL5 (by simp; omega))
        have HA5 := Lib.hid ((HAr.out.alloc (Obj.cells #[.func (.func 73) #[] #[], .func (.func 74) #[] #[]] 129)).below hL5 (by simp; omega))
        have HT5 := Lib.hid ((Blk.new wr [.func (.func 73) #[] #[], .func (.func 74) #[] #[]] 129).below hL5 (by simp))
        clear hL5 hw A0 A1 A2 A3 A4 A5 A6 A7 A8 A9 A10 A11 c0 c1 c2 c3 c4 c5 c6 c7 s0 s1
        have d0 := HF5.out.cell 0
        have d1 := HF5.out.cell 1
        have d2 := HF5.out.cell 2
        have d3 := HF5.out.cell 3
        have d4 := HF5.out.cell 4
        have d5 := HF5.out.cell 5
        have d6 := HF5.out.cell 6
        have d7 := HF5.out.cell 7
        simp only [Fm.cells, List.getElem?_cons_zero, List.getElem?_cons_succ] at d0 d1 d2 d3 d4 d5 d6 d7
        have t0 := HT5.out.cell 0
        have t1 := HT5.out.cell 1
        simp only [List.getElem?_cons_zero, List.getElem?_cons_succ] at t0 t1
        go_wp2_with fail
        go_roundw
        case rel => exact ⟨5, by omega, rfl, HK5.out, HF5.out, HS5.out, HA5.out⟩
        case measure => simp [intOf]
    · have HA := Lib.hid (HFr.out.alloc (Obj.cells #[.func (.func 75) #[] #[], .func (.func 76) #[] #[]] 129))
      by_cases hkf : fa = 5
      · subst hkf
        rw [show decide (5 = 5) = true from rfl] at hw
        go_wp2_with fail
        refine (when5 (Fm.mk c hf ⟨ch, lo, wa, re, by_, nx⟩) g _ a room).mono ?_
        rw [hw]
        rintro e w5 ⟨rfl, hL5⟩
        have HK5 := Lib.hid ((HKr.out.alloc (Obj.cells #[.func (.func 75) #[] #[], .func (.func 76) #[] #[]] 129)).below hL5 (by simp; omega))
        have HF5 := Lib.hid ((HFr.out.alloc (Obj.cells #[.func (.func 75) #[] #[], .func (.func 76) #[] #[]] 129)).below hL5 (by simp; omega))
        have HS5 := Lib.hid ((HSr.out.alloc (Obj.cells #[.func (.func 75) #[] #[], .func (.func 76) #[] #[]] 129)).below hL5 (by simp; omega))
        have HA5 := Lib.hid ((HAr.out.alloc (Obj.cells #[.func (.func 75) #[] #[], .func (.func 76) #[] #[]] 129)).below hL5 (by simp; omega))
        have HT5 := Lib.hid ((Blk.new wr [.func (.func 75) #[] #[], .func (.func 76) #[] #[]] 129).below hL5 (by simp))
        clear hL5 hw A0 A1 A2 A3 A4 A5 A6 A7 A8 A9 A10 A11 c0 c1 c2 c3 c4 c5 c6 c7 s0 s1
        have d0 := HF5.out.cell 0
        have d1 := HF5.out.cell 1
        have d2 := HF5.out.cell 2
        have d3 := HF5.out.cell 3
        have d4 := HF5.out.cell 4
        have d5 := HF5.out.cell 5
        have d6 := HF5.out.cell 6
        have d7 := HF5.out.cell 7
        simp only [Fm.cells, List.getElem?_cons_zero, List.getElem?_cons_succ] at d0 d1 d2 d3 d4 d5 d6 d7
        have t0 := HT5.out.cell 0
        have t1 := HT5.out.cell 1
        simp only [List.getElem?_cons_zero, List.getElem?_cons_succ] at t0 t1
        go_wp2_with fail
        refine still_tail 5 (by kernel_rfl) (by kernel_rfl) ?_
        simp only [List.take_succ_cons, List.take_zero, List.drop_succ_cons, List.drop_zero]
        repeat still_step
        refine wpStill_nil ?_
        go_wp2_with fail
        refine (do5 (Fm.mk c hf ⟨ch, lo, wa, re, by_, nx⟩) g _ HF5.out.drew).mono ?_
        rintro e w7 ⟨rfl, hK7, hF7⟩
        have HK7 := Lib.hid (HK5.out.drew.trans hK7)
        have HF7 := Lib.hid hF7
        clear hK7 hF7 t0 t1 d0 d1 d2 d3 d4 d5 d6 d7
        have d0 := HF7.out.cell 0
        have d1 := HF7.out.cell 1
        have d2 := HF7.out.cell 2
        have d3 := HF7.out.cell 3
        have d4 := HF7.out.cell 4
        have d5 := HF7.out.cell 5
        have d6 := HF7.out.cell 6
        have d7 := HF7.out.cell 7
        simp only [Fm.cells, doF, List.getElem?_cons_zero, List.getElem?_cons_succ] at d0 d1 d2 d3 d4 d5 d6 d7
        go_wp2_with fail
        go_ret2
        refine ⟨?_, HK7.out, HF7.out⟩
        first
          | rfl
          | (simp [doF]; done)
          | (simp [doF]; rfl)
      · exfalso; omega
theorem Take_any (f : Fm) (x : Tc) (room : Bool) (g : Nat) (w : World) (hok : f.ok) (hB : Blk w g f.cells 112) :
    Calls Try.prog 53 #[.pointer (some ⟨g, 0, none⟩), x.val, .bool room] w fun e w' => e = .returned (.tuple #[.bool (takeF f x room).2.1, .int .i64 (takeF f x room).2.2]) ∧ Keep [g] w w' ∧ Blk w' g (takeF f x room).1.cells 112 := by
  obtain ⟨c, ch, b, k, s, d⟩ := x
  obtain ⟨cr, hf, ⟨fc, lo, wa, re, by_, nx⟩⟩ := f
  cases hg : (Tc.mk c ch b k s d).good
  · rw [show takeF (Fm.mk cr hf ⟨fc, lo, wa, re, by_, nx⟩) (Tc.mk c ch b k s d) room = (Fm.mk cr hf ⟨fc, lo, wa, re, by_, nx⟩, false, 2) by unfold takeF; rw [hg]; rfl]
    exact Take_bad c ch b k s d cr hf fc lo wa re by_ nx room g w hok hB hg
  by_cases h1 : c = cr
  case neg =>
    rw [show takeF (Fm.mk cr hf ⟨fc, lo, wa, re, by_, nx⟩) (Tc.mk c ch b k s d) room = (Fm.mk cr hf ⟨fc, lo, wa, re, by_, nx⟩, false, 2) by unfold takeF; rw [hg, if_neg (by simp [h1])]]
    exact Take_craft c ch b k s d cr hf fc lo wa re by_ nx room g w hok hB hg (by simpa using h1)
  by_cases h2 : ch = fc
  case neg =>
    rw [show takeF (Fm.mk cr hf ⟨fc, lo, wa, re, by_, nx⟩) (Tc.mk c ch b k s d) room = (Fm.mk cr hf ⟨fc, lo, wa, re, by_, nx⟩, false, 2) by unfold takeF; rw [hg, if_neg (by simp [h2])]]
    exact Take_chan c ch b k s d cr hf fc lo wa re by_ nx room g w hok hB hg h1 (by simpa using h2)
  subst h1 h2
  cases b
  · rw [show takeF (Fm.mk c hf ⟨ch, lo, wa, re, by_, nx⟩) (Tc.mk c ch false k s d) room = (doF (Fm.mk c hf ⟨ch, lo, wa, re, by_, nx⟩) (firstAct (Fm.mk c hf ⟨ch, lo, wa, re, by_, nx⟩) ((s - nx) % 256) room), (doF (Fm.mk c hf ⟨ch, lo, wa, re, by_, nx⟩) (firstAct (Fm.mk c hf ⟨ch, lo, wa, re, by_, nx⟩) ((s - nx) % 256) room)).st.next != nx, 0) by unfold takeF; rw [hg, if_pos (by simp)]; rfl]
    exact Take_seq c ch k s d hf lo wa re by_ nx room g w hok hB hg
  · rw [show takeF (Fm.mk c hf ⟨ch, lo, wa, re, by_, nx⟩) (Tc.mk c ch true k s d) room = bypassF (Fm.mk c hf ⟨ch, lo, wa, re, by_, nx⟩) (Tc.mk c ch true k s d) by unfold takeF; rw [hg, if_pos (by simp)]; rfl]
    exact Take_by c ch k s d hf lo wa re by_ nx room g w hok hB hg
end Go.Proofs.Ytbncejmohhejlaa
