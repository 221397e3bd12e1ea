/- What is proved here: the walk of the law about control words. -/
import Derived.Test.YtebgehmgjafblaaS14
import Derived.Test.YtebgehmgjafblaaF10
set_option linter.unusedVariables false
set_option linter.unusedSimpArgs false
namespace Go.Proofs.Ytebgehmgjafblaa
open Go.RowKit
set_option maxRecDepth 100000 in
theorem rdW_word (c b n : Nat) (l w r : Bool) (h1 : c ≤ 7) (h2 : b ≤ 3) (h3 : n ≤ 255) : rdW (wordN c b n l w r) = Wd.mk c l w r b n := by
  unfold rdW
  rw [bit_div, bit_div, bit_div]
  cases l <;> cases w <;> cases r
  all_goals
    simp only [wordN, bn, Nat.reducePow, Wd.mk.injEq]
    refine ⟨?_, ?_, ?_, ?_, ?_, ?_⟩
    · simp; omega
    · simp; omega
    · simp; omega
    · simp; omega
    · simp; omega
    · simp; omega
theorem rdN_word (c b n : Nat) (l w r : Bool) (h1 : c ≤ 7) (h2 : b ≤ 3) (h3 : n ≤ 255) : rdN (wordN c b n l w r) = wordN c b n l w r := by
  have h := rdW_word c b n l w r h1 h2 h3
  unfold rdW at h
  injection h with e1 e2 e3 e4 e5 e6
  unfold rdN
  rw [e2, e3, e4, Int.ofNat.inj e1, Int.ofNat.inj e5, Int.ofNat.inj e6]
theorem putV_rdW (n : Nat) : (rdW n).putV = .tuple #[.int .u32 (rdN n : Nat), .int .i64 0] := by
  have hg : (rdW n).good = true := by rw [Wd.good_iff]; unfold rdW; simp only; omega
  rw [putV_ok _ hg]; rfl
set_option maxHeartbeats 8000000 in
set_option maxRecDepth 100000 in
theorem words_g_o (c b m : Nat) (l wa r : Bool) (h1 : c ≤ 7) (h2 : b ≤ 3) (h3 : m ≤ 255) (n : Nat) (hn : n < 4294967296) (hr : rdN n = n) (w : World) : Calls Try.prog 11 #[(Wd.mk c l wa r b m).val, .int .u32 n] w fun e w' => e = .returned (.bool true) ∧ Below w.heap.size w w' := by
  have HSH := Lib.hid (fun w => shown14_any w)
  obtain ⟨N, hN⟩ : ∃ N, N = wordN c b m l wa r := ⟨_, rfl⟩
  have hp := fun w => PutWord_ok c b m l wa r w h1 h2 h3
  have hq := fun w => rPutWord_ok c b m l wa r w h1 h2 h3
  have hNl : N < 4294967296 := by rw [hN]; exact wordN_lt _ _ _ _ _ _ h1 h2 h3
  have hback := fun w => ReadWord_any N w hNl
  have hbv : readV N = .tuple #[.agg #[.int .i64 c, .bool l, .bool wa, .bool r, .int .i64 b, .int .i64 m], .int .i64 0] := by
    unfold readV
    rw [hN, if_pos (rdN_word c b m l wa r h1 h2 h3), rdW_word c b m l wa r h1 h2 h3]; rfl
  rw [hbv] at hback
  rw [← hN] at hp hq
  simp only [Wd.val] at hp hq ⊢
  have HP := Lib.hid hp; have HQ := Lib.hid hq; have HBK := Lib.hid hback; clear hp hq hback hbv hN
  have hr1 := fun w => ReadWord_any n w hn
  have hr2 := fun w => rReadWord_any n w hn
  have hrv : readV n = .tuple #[(rdW n).val, .int .i64 0] := by unfold readV; rw [if_pos hr]
  have hpw := fun w => PutWord_any (rdW n) w
  rw [putV_rdW, hr] at hpw
  rw [hrv] at hr1 hr2
  obtain ⟨⟨c1, l1, w1, r1, b1, n1⟩, hrw⟩ : ∃ x, x = rdW n := ⟨_, rfl⟩
  rw [← hrw] at hr1 hr2 hpw
  simp only [Wd.val] at hr1 hr2 hpw
  have HPW := Lib.hid hpw; clear hpw hrv hrw hr
  have HR1 := Lib.hid hr1; have HR2 := Lib.hid hr2; clear hr1 hr2
  have HL0 := Lib.hid ((Below.refl w.heap.size w).alloc (Nat.le_refl _) (Obj.cells #[.int .i64 c, .bool l, .bool wa, .bool r, .int .i64 b, .int .i64 m] 34))
  have HX0 := Lib.hid (Blk.new w [.int .i64 c, .bool l, .bool wa, .bool r, .int .i64 b, .int .i64 m] 34)
  go_enter Try.func11, Try.ntmps11
  go_wp2_with fail
  refine (HSH.out _).mono ?_
  rintro e v1 ⟨rfl, hL1⟩
  have HL1 := Lib.hid (HL0.out.trans (hL1.mono HL0.out.size))
  have HX1 := Lib.hid (HX0.out.below hL1 HX0.out.lt); clear hL1 HL0 HX0
  have x0 := HX1.out.cell 0
  have x1 := HX1.out.cell 1
  have x2 := HX1.out.cell 2
  have x3 := HX1.out.cell 3
  have x4 := HX1.out.cell 4
  have x5 := HX1.out.cell 5
  simp only [List.getElem?_cons_zero, List.getElem?_cons_succ] at x0 x1 x2 x3 x4 x5
  go_wp2_with fail
  refine (HP.out _).mono ?_
  rintro e v2 ⟨rfl, hL2⟩
  have HL2 := Lib.hid (HL1.out.trans (hL2.mono HL1.out.size))
  have HX2 := Lib.hid (HX1.out.below hL2 HX1.out.lt); clear hL2 HL1 HX1 x0 x1 x2 x3 x4 x5
  have x0 := HX2.out.cell 0
  have x1 := HX2.out.cell 1
  have x2 := HX2.out.cell 2
  have x3 := HX2.out.cell 3
  have x4 := HX2.out.cell 4
  have x5 := HX2.out.cell 5
  simp only [List.getElem?_cons_zero, List.getElem?_cons_succ] at x0 x1 x2 x3 x4 x5
  go_wp2_with fail
  refine (HQ.out _).mono ?_
  rintro e v3 ⟨rfl, hL3⟩
  have HL3 := Lib.hid (HL2.out.trans (hL3.mono HL2.out.size))
  have HX3 := Lib.hid (HX2.out.below hL3 HX2.out.lt); clear hL3 HL2 HX2 x0 x1 x2 x3 x4 x5
  go_wp2_with fail
  refine (HR1.out _).mono ?_
  rintro e v4 ⟨rfl, hL4⟩
  have HL4 := Lib.hid (HL3.out.trans (hL4.mono HL3.out.size))
  have HX4 := Lib.hid (HX3.out.below hL4 HX3.out.lt); clear hL4 HL3 HX3
  go_wp2_with fail
  obtain ⟨b9, hb9⟩ : ∃ b9, b9 = v4.heap.size := ⟨_, rfl⟩
  rw [← hb9]
  refine (HR2.out _).mono ?_
  rintro e v5 ⟨rfl, hL5⟩
  have H95 := Lib.hid (show Blk v5 b9 [.int .i64 c1, .bool l1, .bool w1, .bool r1, .int .i64 b1, .int .i64 n1] 34 by rw [hb9]; exact (Blk.new v4 [.int .i64 c1, .bool l1, .bool w1, .bool r1, .int .i64 b1, .int .i64 n1] 34).below hL5 (by simp))
  have HX5 := Lib.hid ((HX4.out.alloc (Obj.cells #[.int .i64 c1, .bool l1, .bool w1, .bool r1, .int .i64 b1, .int .i64 n1] 34)).below hL5 (by have := HX4.out.lt; simp; omega))
  have HL5 := Lib.hid ((HL4.out.alloc HL4.out.size (Obj.cells #[.int .i64 c1, .bool l1, .bool w1, .bool r1, .int .i64 b1, .int .i64 n1] 34)).trans (hL5.mono (by have := HL4.out.size; simp; omega))); clear hL5 HL4 HX4 hb9
  have HL6 := Lib.hid (HL5.out.alloc HL5.out.size (Obj.cells #[.int .i64 c1, .bool l1, .bool w1, .bool r1, .int .i64 b1, .int .i64 n1] 34))
  have HX6 := Lib.hid (HX5.out.alloc (Obj.cells #[.int .i64 c1, .bool l1, .bool w1, .bool r1, .int .i64 b1, .int .i64 n1] 34))
  have H96 := Lib.hid (H95.out.alloc (Obj.cells #[.int .i64 c1, .bool l1, .bool w1, .bool r1, .int .i64 b1, .int .i64 n1] 34))
  have y0 := H96.out.cell 0
  have y1 := H96.out.cell 1
  have y2 := H96.out.cell 2
  have y3 := H96.out.cell 3
  have y4 := H96.out.cell 4
  have y5 := H96.out.cell 5
  simp only [List.getElem?_cons_zero, List.getElem?_cons_succ] at y0 y1 y2 y3 y4 y5
  go_wp2_with fail
  refine (HBK.out _).mono ?_
  rintro e v7 ⟨rfl, hL7⟩
  have HL7 := Lib.hid (HL6.out.trans (hL7.mono HL6.out.size))
  have HX7 := Lib.hid (HX6.out.below hL7 HX6.out.lt)
  have H97 := Lib.hid (H96.out.below hL7 H96.out.lt); clear hL7 HL6 HX6 H96 y0 y1 y2 y3 y4 y5
  have HX8 := Lib.hid (HX7.out.alloc (Obj.cells #[.int .i64 c, .bool l, .bool wa, .bool r, .int .i64 b, .int .i64 m] 34))
  have H98 := Lib.hid (H97.out.alloc (Obj.cells #[.int .i64 c, .bool l, .bool wa, .bool r, .int .i64 b, .int .i64 m] 34))
  have HL8 := Lib.hid (HL7.out.alloc HL7.out.size (Obj.cells #[.int .i64 c, .bool l, .bool wa, .bool r, .int .i64 b, .int .i64 m] 34))
  have x0 := HX8.out.cell 0
  have x1 := HX8.out.cell 1
  have x2 := HX8.out.cell 2
  have x3 := HX8.out.cell 3
  have x4 := HX8.out.cell 4
  have x5 := HX8.out.cell 5
  simp only [List.getElem?_cons_zero, List.getElem?_cons_succ] at x0 x1 x2 x3 x4 x5
  have y0 := H98.out.cell 0
  have y1 := H98.out.cell 1
  have y2 := H98.out.cell 2
  have y3 := H98.out.cell 3
  have y4 := H98.out.cell 4
  have y5 := H98.out.cell 5
  simp only [List.getElem?_cons_zero, List.getElem?_cons_succ] at y0 y1 y2 y3 y4 y5
  go_wp2_with fail
  refine (HPW.out _).mono ?_
  rintro e v9 ⟨rfl, hL9⟩
  have HL9 := Lib.hid (HL8.out.trans (hL9.mono HL8.out.size)); clear hL9
  go_wp2_with fail
  go_ret
  exact ⟨rfl, HL9.out⟩
set_option maxHeartbeats 8000000 in
set_option maxRecDepth 100000 in
theorem words_g_n (c b m : Nat) (l wa r : Bool) (h1 : c ≤ 7) (h2 : b ≤ 3) (h3 : m ≤ 255) (n : Nat) (hn : n < 4294967296) (hr : ¬ rdN n = n) (w : World) : Calls Try.prog 11 #[(Wd.mk c l wa r b m).val, .int .u32 n] w fun e w' => e = .returned (.bool true) ∧ Below w.heap.size w w' := by
  have HSH := Lib.hid (fun w => shown14_any w)
  obtain ⟨N, hN⟩ : ∃ N, N = wordN c b m l wa r := ⟨_, rfl⟩
  have hp := fun w => PutWord_ok c b m l wa r w h1 h2 h3
  have hq := fun w => rPutWord_ok c b m l wa r w h1 h2 h3
  have hNl : N < 4294967296 := by rw [hN]; exact wordN_lt _ _ _ _ _ _ h1 h2 h3
  have hback := fun w => ReadWord_any N w hNl
  have hbv : readV N = .tuple #[.agg #[.int .i64 c, .bool l, .bool wa, .bool r, .int .i64 b, .int .i64 m], .int .i64 0] := by
    unfold readV
    rw [hN, if_pos (rdN_word c b m l wa r h1 h2 h3), rdW_word c b m l wa r h1 h2 h3]; rfl
  rw [hbv] at hback
  rw [← hN] at hp hq
  simp only [Wd.val] at hp hq ⊢
  have HP := Lib.hid hp; have HQ := Lib.hid hq; have HBK := Lib.hid hback; clear hp hq hback hbv hN
  have hr1 := fun w => ReadWord_any n w hn
  have hr2 := fun w => rReadWord_any n w hn
  have hrv : readV n = .tuple #[Wd.zero.val, .int .i64 6] := by unfold readV; rw [if_neg hr]
  rw [hrv] at hr1 hr2
  simp only [Wd.val, Wd.zero] at hr1 hr2
  clear hrv hr
  have HR1 := Lib.hid hr1; have HR2 := Lib.hid hr2; clear hr1 hr2
  have HL0 := Lib.hid ((Below.refl w.heap.size w).alloc (Nat.le_refl _) (Obj.cells #[.int .i64 c, .bool l, .bool wa, .bool r, .int .i64 b, .int .i64 m] 34))
  have HX0 := Lib.hid (Blk.new w [.int .i64 c, .bool l, .bool wa, .bool r, .int .i64 b, .int .i64 m] 34)
  go_enter Try.func11, Try.ntmps11
  go_wp2_with fail
  refine (HSH.out _).mono ?_
  rintro e v1 ⟨rfl, hL1⟩
  have HL1 := Lib.hid (HL0.out.trans (hL1.mono HL0.out.size))
  have HX1 := Lib.hid (HX0.out.below hL1 HX0.out.lt); clear hL1 HL0 HX0
  have x0 := HX1.out.cell 0
  have x1 := HX1.out.cell 1
  have x2 := HX1.out.cell 2
  have x3 := HX1.out.cell 3
  have x4 := HX1.out.cell 4
  have x5 := HX1.out.cell 5
  simp only [List.getElem?_cons_zero, List.getElem?_cons_succ] at x0 x1 x2 x3 x4 x5
  go_wp2_with fail
  refine (HP.out _).mono ?_
  rintro e v2 ⟨rfl, hL2⟩
  have HL2 := Lib.hid (HL1.out.trans (hL2.mono HL1.out.size))
  have HX2 := Lib.hid (HX1.out.below hL2 HX1.out.lt); clear hL2 HL1 HX1 x0 x1 x2 x3 x4 x5
  have x0 := HX2.out.cell 0
  have x1 := HX2.out.cell 1
  have x2 := HX2.out.cell 2
  have x3 := HX2.out.cell 3
  have x4 := HX2.out.cell 4
  have x5 := HX2.out.cell 5
  simp only [List.getElem?_cons_zero, List.getElem?_cons_succ] at x0 x1 x2 x3 x4 x5
  go_wp2_with fail
  refine (HQ.out _).mono ?_
  rintro e v3 ⟨rfl, hL3⟩
  have HL3 := Lib.hid (HL2.out.trans (hL3.mono HL2.out.size))
  have HX3 := Lib.hid (HX2.out.below hL3 HX2.out.lt); clear hL3 HL2 HX2 x0 x1 x2 x3 x4 x5
  go_wp2_with fail
  refine (HR1.out _).mono ?_
  rintro e v4 ⟨rfl, hL4⟩
  have HL4 := Lib.hid (HL3.out.trans (hL4.mono HL3.out.size))
  have HX4 := Lib.hid (HX3.out.below hL4 HX3.out.lt); clear hL4 HL3 HX3
  go_wp2_with fail
  obtain ⟨b9, hb9⟩ : ∃ b9, b9 = v4.heap.size := ⟨_, rfl⟩
  rw [← hb9]
  refine (HR2.out _).mono ?_
  rintro e v5 ⟨rfl, hL5⟩
  have H95 := Lib.hid (show Blk v5 b9 [.int .i64 0, .bool false, .bool false, .bool false, .int .i64 0, .int .i64 0] 34 by rw [hb9]; exact (Blk.new v4 [.int .i64 0, .bool false, .bool false, .bool false, .int .i64 0, .int .i64 0] 34).below hL5 (by simp))
  have HX5 := Lib.hid ((HX4.out.alloc (Obj.cells #[.int .i64 0, .bool false, .bool false, .bool false, .int .i64 0, .int .i64 0] 34)).below hL5 (by have := HX4.out.lt; simp; omega))
  have HL5 := Lib.hid ((HL4.out.alloc HL4.out.size (Obj.cells #[.int .i64 0, .bool false, .bool false, .bool false, .int .i64 0, .int .i64 0] 34)).trans (hL5.mono (by have := HL4.out.size; simp; omega))); clear hL5 HL4 HX4 hb9
  have HL6 := Lib.hid (HL5.out.alloc HL5.out.size (Obj.cells #[.int .i64 0, .bool false, .bool false, .bool false, .int .i64 0, .int .i64 0] 34))
  have HX6 := Lib.hid (HX5.out.alloc (Obj.cells #[.int .i64 0, .bool false, .bool false, .bool false, .int .i64 0, .int .i64 0] 34))
  have H96 := Lib.hid (H95.out.alloc (Obj.cells #[.int .i64 0, .bool false, .bool false, .bool false, .int .i64 0, .int .i64 0] 34))
  have y0 := H96.out.cell 0
  have y1 := H96.out.cell 1
  have y2 := H96.out.cell 2
  have y3 := H96.out.cell 3
  have y4 := H96.out.cell 4
  have y5 := H96.out.cell 5
  simp only [List.getElem?_cons_zero, List.getElem?_cons_succ] at y0 y1 y2 y3 y4 y5
  go_wp2_with fail
  refine (HBK.out _).mono ?_
  rintro e v7 ⟨rfl, hL7⟩
  have HL7 := Lib.hid (HL6.out.trans (hL7.mono HL6.out.size))
  have HX7 := Lib.hid (HX6.out.below hL7 HX6.out.lt)
  have H97 := Lib.hid (H96.out.below hL7 H96.out.lt); clear hL7 HL6 HX6 H96 y0 y1 y2 y3 y4 y5
  have HX8 := Lib.hid (HX7.out.alloc (Obj.cells #[.int .i64 c, .bool l, .bool wa, .bool r, .int .i64 b, .int .i64 m] 34))
  have H98 := Lib.hid (H97.out.alloc (Obj.cells #[.int .i64 c, .bool l, .bool wa, .bool r, .int .i64 b, .int .i64 m] 34))
  have HL8 := Lib.hid (HL7.out.alloc HL7.out.size (Obj.cells #[.int .i64 c, .bool l, .bool wa, .bool r, .int .i64 b, .int .i64 m] 34))
  have x0 := HX8.out.cell 0
  have x1 := HX8.out.cell 1
  have x2 := HX8.out.cell 2
  have x3 := HX8.out.cell 3
  have x4 := HX8.out.cell 4
  have x5 := HX8.out.cell 5
  simp only [List.getElem?_cons_zero, List.getElem?_cons_succ] at x0 x1 x2 x3 x4 x5
  have y0 := H98.out.cell 0
  have y1 := H98.out.cell 1
  have y2 := H98.out.cell 2
  have y3 := H98.out.cell 3
  have y4 := H98.out.cell 4
  have y5 := H98.out.cell 5
  simp only [List.getElem?_cons_zero, List.getElem?_cons_succ] at y0 y1 y2 y3 y4 y5
  go_wp2_with fail
  go_ret
  exact ⟨rfl, HL8.out⟩
set_option maxHeartbeats 8000000 in
set_option maxRecDepth 100000 in
theorem words_b_o (c b m : Int) (l wa r : Bool) (hg : ¬ (Wd.mk c l wa r b m).good = true) (n : Nat) (hn : n < 4294967296) (hr : rdN n = n) (w : World) : Calls Try.prog 11 #[(Wd.mk c l wa r b m).val, .int .u32 n] w fun e w' => e = .returned (.bool true) ∧ Below w.heap.size w w' := by
  have HSH := Lib.hid (fun w => shown14_any w)
  have hp := fun w => PutWord_bad (Wd.mk c l wa r b m) w hg
  have hq := fun w => rPutWord_bad (Wd.mk c l wa r b m) w hg
  simp only [Wd.val] at hp hq ⊢
  have HP := Lib.hid hp; have HQ := Lib.hid hq; clear hp hq hg
  have hr1 := fun w => ReadWord_any n w hn
  have hr2 := fun w => rReadWord_any n w hn
  have hrv : readV n = .tuple #[(rdW n).val, .int .i64 0] := by unfold readV; rw [if_pos hr]
  have hpw := fun w => PutWord_any (rdW n) w
  rw [putV_rdW, hr] at hpw
  rw [hrv] at hr1 hr2
  obtain ⟨⟨c1, l1, w1, r1, b1, n1⟩, hrw⟩ : ∃ x, x = rdW n := ⟨_, rfl⟩
  rw [← hrw] at hr1 hr2 hpw
  simp only [Wd.val] at hr1 hr2 hpw
  have HPW := Lib.hid hpw; clear hpw hrv hrw hr
  have HR1 := Lib.hid hr1; have HR2 := Lib.hid hr2; clear hr1 hr2
  have HL0 := Lib.hid ((Below.refl w.heap.size w).alloc (Nat.le_refl _) (Obj.cells #[.int .i64 c, .bool l, .bool wa, .bool r, .int .i64 b, .int .i64 m] 34))
  have HX0 := Lib.hid (Blk.new w [.int .i64 c, .bool l, .bool wa, .bool r, .int .i64 b, .int .i64 m] 34)
  go_enter Try.func11, Try.ntmps11
  go_wp2_with fail
  refine (HSH.out _).mono ?_
  rintro e v1 ⟨rfl, hL1⟩
  have HL1 := Lib.hid (HL0.out.trans (hL1.mono HL0.out.size))
  have HX1 := Lib.hid (HX0.out.below hL1 HX0.out.lt); clear hL1 HL0 HX0
  have x0 := HX1.out.cell 0
  have x1 := HX1.out.cell 1
  have x2 := HX1.out.cell 2
  have x3 := HX1.out.cell 3
  have x4 := HX1.out.cell 4
  have x5 := HX1.out.cell 5
  simp only [List.getElem?_cons_zero, List.getElem?_cons_succ] at x0 x1 x2 x3 x4 x5
  go_wp2_with fail
  refine (HP.out _).mono ?_
  rintro e v2 ⟨rfl, hL2⟩
  have HL2 := Lib.hid (HL1.out.trans (hL2.mono HL1.out.size))
  have HX2 := Lib.hid (HX1.out.below hL2 HX1.out.lt); clear hL2 HL1 HX1 x0 x1 x2 x3 x4 x5
  have x0 := HX2.out.cell 0
  have x1 := HX2.out.cell 1
  have x2 := HX2.out.cell 2
  have x3 := HX2.out.cell 3
  have x4 := HX2.out.cell 4
  have x5 := HX2.out.cell 5
  simp only [List.getElem?_cons_zero, List.getElem?_cons_succ] at x0 x1 x2 x3 x4 x5
  go_wp2_with fail
  refine (HQ.out _).mono ?_
  rintro e v3 ⟨rfl, hL3⟩
  have HL3 := Lib.hid (HL2.out.trans (hL3.mono HL2.out.size))
  have HX3 := Lib.hid (HX2.out.below hL3 HX2.out.lt); clear hL3 HL2 HX2 x0 x1 x2 x3 x4 x5
  go_wp2_with fail
  refine (HR1.out _).mono ?_
  rintro e v4 ⟨rfl, hL4⟩
  have HL4 := Lib.hid (HL3.out.trans (hL4.mono HL3.out.size))
  have HX4 := Lib.hid (HX3.out.below hL4 HX3.out.lt); clear hL4 HL3 HX3
  go_wp2_with fail
  obtain ⟨b9, hb9⟩ : ∃ b9, b9 = v4.heap.size := ⟨_, rfl⟩
  rw [← hb9]
  refine (HR2.out _).mono ?_
  rintro e v5 ⟨rfl, hL5⟩
  have H95 := Lib.hid (show Blk v5 b9 [.int .i64 c1, .bool l1, .bool w1, .bool r1, .int .i64 b1, .int .i64 n1] 34 by rw [hb9]; exact (Blk.new v4 [.int .i64 c1, .bool l1, .bool w1, .bool r1, .int .i64 b1, .int .i64 n1] 34).below hL5 (by simp))
  have HX5 := Lib.hid ((HX4.out.alloc (Obj.cells #[.int .i64 c1, .bool l1, .bool w1, .bool r1, .int .i64 b1, .int .i64 n1] 34)).below hL5 (by have := HX4.out.lt; simp; omega))
  have HL5 := Lib.hid ((HL4.out.alloc HL4.out.size (Obj.cells #[.int .i64 c1, .bool l1, .bool w1, .bool r1, .int .i64 b1, .int .i64 n1] 34)).trans (hL5.mono (by have := HL4.out.size; simp; omega))); clear hL5 HL4 HX4 hb9
  have HL6 := Lib.hid (HL5.out.alloc HL5.out.size (Obj.cells #[.int .i64 c1, .bool l1, .bool w1, .bool r1, .int .i64 b1, .int .i64 n1] 34))
  have HX6 := Lib.hid (HX5.out.alloc (Obj.cells #[.int .i64 c1, .bool l1, .bool w1, .bool r1, .int .i64 b1, .int .i64 n1] 34))
  have H96 := Lib.hid (H95.out.alloc (Obj.cells #[.int .i64 c1, .bool l1, .bool w1, .bool r1, .int .i64 b1, .int .i64 n1] 34))
  have y0 := H96.out.cell 0
  have y1 := H96.out.cell 1
  have y2 := H96.out.cell 2
  have y3 := H96.out.cell 3
  have y4 := H96.out.cell 4
  have y5 := H96.out.cell 5
  simp only [List.getElem?_cons_zero, List.getElem?_cons_succ] at y0 y1 y2 y3 y4 y5
  go_wp2_with fail
  refine (HPW.out _).mono ?_
  rintro e v9 ⟨rfl, hL9⟩
  have HL9 := Lib.hid (HL6.out.trans (hL9.mono HL6.out.size)); clear hL9
  go_wp2_with fail
  go_ret
  exact ⟨rfl, HL9.out⟩
set_option maxHeartbeats 8000000 in
set_option maxRecDepth 100000 in
theorem words_b_n (c b m : Int) (l wa r : Bool) (hg : ¬ (Wd.mk c l wa r b m).good = true) (n : Nat) (hn : n < 4294967296) (hr : ¬ rdN n = n) (w : World) : Calls Try.prog 11 #[(Wd.mk c l wa r b m).val, .int .u32 n] w fun e w' => e = .returned (.bool true) ∧ Below w.heap.size w w' := by
  have HSH := Lib.hid (fun w => shown14_any w)
  have hp := fun w => PutWord_bad (Wd.mk c l wa r b m) w hg
  have hq := fun w => rPutWord_bad (Wd.mk c l wa r b m) w hg
  simp only [Wd.val] at hp hq ⊢
  have HP := Lib.hid hp; have HQ := Lib.hid hq; clear hp hq hg
  have hr1 := fun w => ReadWord_any n w hn
  have hr2 := fun w => rReadWord_any n w hn
  have hrv : readV n = .tuple #[Wd.zero.val, .int .i64 6] := by unfold readV; rw [if_neg hr]
  rw [hrv] at hr1 hr2
  simp only [Wd.val, Wd.zero] at hr1 hr2
  clear hrv hr
  have HR1 := Lib.hid hr1; have HR2 := Lib.hid hr2; clear hr1 hr2
  have HL0 := Lib.hid ((Below.refl w.heap.size w).alloc (Nat.le_refl _) (Obj.cells #[.int .i64 c, .bool l, .bool wa, .bool r, .int .i64 b, .int .i64 m] 34))
  have HX0 := Lib.hid (Blk.new w [.int .i64 c, .bool l, .bool wa, .bool r, .int .i64 b, .int .i64 m] 34)
  go_enter Try.func11, Try.ntmps11
  go_wp2_with fail
  refine (HSH.out _).mono ?_
  rintro e v1 ⟨rfl, hL1⟩
  have HL1 := Lib.hid (HL0.out.trans (hL1.mono HL0.out.size))
  have HX1 := Lib.hid (HX0.out.below hL1 HX0.out.lt); clear hL1 HL0 HX0
  have x0 := HX1.out.cell 0
  have x1 := HX1.out.cell 1
  have x2 := HX1.out.cell 2
  have x3 := HX1.out.cell 3
  have x4 := HX1.out.cell 4
  have x5 := HX1.out.cell 5
  simp only [List.getElem?_cons_zero, List.getElem?_cons_succ] at x0 x1 x2 x3 x4 x5
  go_wp2_with fail
  refine (HP.out _).mono ?_
  rintro e v2 ⟨rfl, hL2⟩
  have HL2 := Lib.hid (HL1.out.trans (hL2.mono HL1.out.size))
  have HX2 := Lib.hid (HX1.out.below hL2 HX1.out.lt); clear hL2 HL1 HX1 x0 x1 x2 x3 x4 x5
  have x0 := HX2.out.cell 0
  have x1 := HX2.out.cell 1
  have x2 := HX2.out.cell 2
  have x3 := HX2.out.cell 3
  have x4 := HX2.out.cell 4
  have x5 := HX2.out.cell 5
  simp only [List.getElem?_cons_zero, List.getElem?_cons_succ] at x0 x1 x2 x3 x4 x5
  go_wp2_with fail
  refine (HQ.out _).mono ?_
  rintro e v3 ⟨rfl, hL3⟩
  have HL3 := Lib.hid (HL2.out.trans (hL3.mono HL2.out.size))
  have HX3 := Lib.hid (HX2.out.below hL3 HX2.out.lt); clear hL3 HL2 HX2 x0 x1 x2 x3 x4 x5
  go_wp2_with fail
  refine (HR1.out _).mono ?_
  rintro e v4 ⟨rfl, hL4⟩
  have HL4 := Lib.hid (HL3.out.trans (hL4.mono HL3.out.size))
  have HX4 := Lib.hid (HX3.out.below hL4 HX3.out.lt); clear hL4 HL3 HX3
  go_wp2_with fail
  obtain ⟨b9, hb9⟩ : ∃ b9, b9 = v4.heap.size := ⟨_, rfl⟩
  rw [← hb9]
  refine (HR2.out _).mono ?_
  rintro e v5 ⟨rfl, hL5⟩
  have H95 := Lib.hid (show Blk v5 b9 [.int .i64 0, .bool false, .bool false, .bool false, .int .i64 0, .int .i64 0] 34 by rw [hb9]; exact (Blk.new v4 [.int .i64 0, .bool false, .bool false, .bool false, .int .i64 0, .int .i64 0] 34).below hL5 (by simp))
  have HX5 := Lib.hid ((HX4.out.alloc (Obj.cells #[.int .i64 0, .bool false, .bool false, .bool false, .int .i64 0, .int .i64 0] 34)).below hL5 (by have := HX4.out.lt; simp; omega))
  have HL5 := Lib.hid ((HL4.out.alloc HL4.out.size (Obj.cells #[.int .i64 0, .bool false, .bool false, .bool false, .int .i64 0, .int .i64 0] 34)).trans (hL5.mono (by have := HL4.out.size; simp; omega))); clear hL5 HL4 HX4 hb9
  have HL6 := Lib.hid (HL5.out.alloc HL5.out.size (Obj.cells #[.int .i64 0, .bool false, .bool false, .bool false, .int .i64 0, .int .i64 0] 34))
  have HX6 := Lib.hid (HX5.out.alloc (Obj.cells #[.int .i64 0, .bool false, .bool false, .bool false, .int .i64 0, .int .i64 0] 34))
  have H96 := Lib.hid (H95.out.alloc (Obj.cells #[.int .i64 0, .bool false, .bool false, .bool false, .int .i64 0, .int .i64 0] 34))
  have y0 := H96.out.cell 0
  have y1 := H96.out.cell 1
  have y2 := H96.out.cell 2
  have y3 := H96.out.cell 3
  have y4 := H96.out.cell 4
  have y5 := H96.out.cell 5
  simp only [List.getElem?_cons_zero, List.getElem?_cons_succ] at y0 y1 y2 y3 y4 y5
  go_wp2_with fail
  go_ret
  exact ⟨rfl, HL6.out⟩
theorem FarmWords_any (x : Wd) (n : Int) (w : World) (h0 : 0 ≤ n) (h1 : n ≤ 4294967295) : Calls Try.prog 11 #[x.val, .int .u32 n] w fun e w' => e = .returned (.bool true) ∧ Below w.heap.size w w' := by
  obtain ⟨k, rfl⟩ : ∃ k : Nat, n = k := ⟨n.toNat, by omega⟩
  by_cases hg : x.good = true
  · obtain ⟨c, b, m, a1, a2, a3, a4⟩ := x.good_nat hg
    rw [a4]
    by_cases hr : rdN k = k
    · exact words_g_o c b m _ _ _ a1 a2 a3 k (by omega) hr w
    · exact words_g_n c b m _ _ _ a1 a2 a3 k (by omega) hr w
  · by_cases hr : rdN k = k
    · exact words_b_o _ _ _ _ _ _ hg k (by omega) hr w
    · exact words_b_n _ _ _ _ _ _ hg k (by omega) hr w
end Go.Proofs.Ytebgehmgjafblaa
