/- What is proved here: the walk of the law about steps. -/
import Derived.Test.YtebgehmgjafblaaS14
import Derived.Test.YtebgehmgjafblaaF8
import Derived.Test.YtebgehmgjafblaaL14p
import Derived.Test.YtebgehmgjafblaaL14d
import Derived.Deep.DeepCutAuto
import Derived.Deep.RegionHeld3
import Derived.Deep.RegionWith
import Derived.Deep.LoopGhost
set_option linter.unusedVariables false
set_option linter.unusedSimpArgs false
namespace Go.Proofs.Ytebgehmgjafblaa
open Go.RowKit
theorem a3_0 (w : World) (c : List Value) (ty : TypeId) (B C : Obj) : Blk (((w.alloc (.cells c.toArray ty)).alloc B).alloc C).drew w.heap.size c ty := (((Blk.new w c ty).alloc B).alloc C).drew
theorem a3_1 (w : World) (A : Obj) (c : List Value) (ty : TypeId) (C : Obj) : Blk (((w.alloc A).alloc (.cells c.toArray ty)).alloc C).drew (w.heap.size + 1) c ty := ((Blk.new_at (w.alloc A) c ty _ (by simp)).alloc C).drew
theorem a3_2 (w : World) (A B : Obj) (c : List Value) (ty : TypeId) : Blk (((w.alloc A).alloc B).alloc (.cells c.toArray ty)).drew (w.heap.size + 1 + 1) c ty := (Blk.new_at ((w.alloc A).alloc B) c ty _ (by simp)).drew
theorem a3_below (w : World) (A B C : Obj) : Below w.heap.size w (((w.alloc A).alloc B).alloc C).drew := ((((Below.refl _ _).alloc (Nat.le_refl _) A).alloc (by simp) B).alloc (by simp; omega) C).drew
set_option maxHeartbeats 4000000 in
set_option maxRecDepth 100000 in
theorem FarmSteps_any (win : Int) (a : Option Addr) (n cap : Nat) (S : Nat → Stp) (w : World) (hI : I64 win) (hn : n ≤ 9223372036854775807) (hS : StepsAt w a n S) :
    Calls Try.prog 3 #[.int .i64 win, .slice a n cap] w fun e w' => e = .returned (.bool true) ∧ Below w.heap.size w w' := by
  have HSH := Lib.hid (shown14_any w)
  have hp := fun w => pick_any win 127 w (by omega) (by omega) hI.1 hI.2
  obtain ⟨p, hpp⟩ : ∃ p, p = win % 127 := ⟨_, rfl⟩
  rw [← hpp] at hp
  have hp0 : 0 ≤ p := by omega
  have hp1 : p ≤ 126 := by omega
  clear hpp
  have HP := Lib.hid hp
  have hnew := fun w => New_ok 1 2 (p + 1) w (by omega) (by omega) (by omega) (by omega) (by omega) (by omega)
  rw [show 2 * (p + 1) = 2 + 2 * p by omega] at hnew
  have HN := Lib.hid hnew
  have HS := Lib.hid hS
  clear hS hp hnew
  by_cases hn5 : 500 < n
  · go_enter Try.func3, Try.ntmps3
    go_wp2_with fail
    refine HSH.out.mono ?_
    rintro e w1 ⟨rfl, hL1⟩
    have HL1 := Lib.hid hL1; clear hL1
    go_wp2_with fail
    go_ret
    exact ⟨rfl, HL1.out⟩
  · go_enter Try.func3, Try.ntmps3
    go_wp2_with fail
    refine HSH.out.mono ?_
    rintro e w1 ⟨rfl, hL1⟩
    have HL1 := Lib.hid hL1
    have hl1 := hL1.size; clear hL1
    go_wp2_with fail
    refine (HP.out _).mono ?_
    rintro e w1' ⟨rfl, rfl⟩
    go_wp2_with fail
    refine (HN.out _).mono ?_
    rintro e w2 ⟨rfl, hL2, hB2⟩
    obtain ⟨g, hg⟩ : ∃ g, g = w1.heap.size := ⟨_, rfl⟩
    rw [← hg] at hB2 ⊢
    have hgw : w.heap.size ≤ g := by omega
    have HL2 := Lib.hid (HL1.out.trans (hL2.mono hl1))
    have HB2 := Lib.hid hB2; clear hL2 hB2 hg
    go_wp2_with fail
    go_loopg [7] n (fun m i wr => ∃ k : Nat, k ≤ n ∧ m = n - k ∧ i = .int .i64 k ∧ Below w.heap.size w wr ∧ ∃ f : Fm, f.ok ∧ f.craft = 1 ∧ f.st.chan = 2 ∧ Blk wr g f.cells 82)
    case atStart => exact ⟨0, by omega, by omega, rfl, HL2.out, _, by simp [Fm.ok, Fm.start]; omega, rfl, rfl, HB2.out⟩
    case round =>
      obtain ⟨k, hk, hm, rfl, hL, f, hok, hcr, hch, hB⟩ := hrel
      have hwl := hL.size
      have hgl := hB.lt
      have HL := Lib.hid hL; have HB := Lib.hid hB; clear hL hB
      by_cases hlt : k < n
      · obtain ⟨b, off, rfl, hbl, hC, hwf⟩ := HS.out k hlt
        obtain ⟨sk, hsk⟩ : ∃ sk, sk = S k := ⟨_, rfl⟩
        rw [← hsk] at hC hwf
        clear hsk
        obtain ⟨⟨xc, xch, xb, xk, xs, xd⟩, room, free⟩ := sk
        obtain ⟨cr, hf, ⟨fc, lo, wa, re, by_, nx⟩⟩ := f
        simp only at hcr hch
        subst hcr hch
        have hl2 : b < wr.heap.size := by omega
        have C := fun j v h => (HL.out.cell (p := ⟨b, off + k * 8 + j, none⟩) hbl).trans (hC j v h)
        have HC6 := Lib.hid (hC 6 _ rfl)
        have C0 := C 0 _ rfl
        have C1 := C 1 _ rfl
        have C2 := C 2 _ rfl
        have C3 := C 3 _ rfl
        have C4 := C 4 _ rfl
        have C5 := C 5 _ rfl
        have C6 := C 6 _ rfl
        simp only [Nat.add_zero] at C0
        go_upto_region 11 with fail
        have hcj := And.intro C0 (And.intro C1 (And.intro C2 (And.intro C3 (And.intro C4 (And.intro C5 (show RestC b wr wr from ⟨Below.refl _ _, hl2⟩))))))
        have HST := Lib.hid (fun W h => State_exact (Fm.mk 1 hf ⟨2, lo, wa, re, by_, nx⟩) g W (by have := hok.1; simp only at this ⊢; omega) h)
        go_cut [8, 9] (fun p8 p9 wx => ∃ b8 b9 : Nat, p8 = .pointer (some ⟨b8, 0, none⟩) ∧ p9 = .pointer (some ⟨b9, 0, none⟩) ∧ b8 ≠ b9 ∧ wr.heap.size ≤ b8 ∧ wr.heap.size ≤ b9 ∧ Below wr.heap.size wr wx ∧ Blk wx b8 (Tc.mk xc xch xb xk xs xd).cells 30 ∧ Blk wx b9 (Wd.mk 2 lo wa re by_ nx).cells 34)
        case first =>
          as_aux_lemma =>
            go_region_held3 (fun w' => w'.cell? ⟨b, off + k * 8, none⟩ = some (.int .i64 xc) ∧ w'.cell? ⟨b, off + k * 8 + 1, none⟩ = some (.int .i64 xch) ∧ w'.cell? ⟨b, off + k * 8 + 2, none⟩ = some (.bool xb) ∧ w'.cell? ⟨b, off + k * 8 + 3, none⟩ = some (.bool xk) ∧ w'.cell? ⟨b, off + k * 8 + 4, none⟩ = some (.int .i64 xs) ∧ w'.cell? ⟨b, off + k * 8 + 5, none⟩ = some (.string xd) ∧ RestC b wr w') (first | assumption | (refine c6_drew ?_; assumption) | (refine c6_alloc _ ?_; assumption) | (refine c6_drew (c6_alloc _ ?_); assumption) | (refine c6_drew (c6_alloc _ (c6_alloc _ ?_)); assumption) | (refine c6_drew (c6_alloc _ (c6_alloc _ (c6_alloc _ ?_))); assumption)) (first | (go_at_call 18; refine (HST.out _ ?_).mono ?_; (first | exact HB.out.drew | exact (HB.out.alloc _).drew | exact ((HB.out.alloc _).alloc _).drew); rintro e w' ⟨rfl, rfl⟩; simp only [Wd.val]))
            all_goals
              go_wp2_with fail
              go_meet
              refine ⟨_, _, rfl, rfl, by omega, by omega, by omega, a3_below _ _ _ _, ?_, ?_⟩
            all_goals
              first
                | exact a3_0 _ (Tc.mk xc xch xb xk xs xd).cells _ _ _
                | exact a3_1 _ _ (Tc.mk xc xch xb xk xs xd).cells _ _
                | exact a3_2 _ _ _ (Tc.mk xc xch xb xk xs xd).cells _
                | exact a3_0 _ (Wd.mk 2 lo wa re by_ nx).cells _ _ _
                | exact a3_1 _ _ (Wd.mk 2 lo wa re by_ nx).cells _ _
                | exact a3_2 _ _ _ (Wd.mk 2 lo wa re by_ nx).cells _
        case rest =>
          obtain ⟨b8, b9, rfl, rfl, h89, h8, h9, hLx, hB8, hB9⟩ := hcut
          have c6 := (hLx.cell (p := ⟨b, off + k * 8 + 6, none⟩) hl2).trans C6
          have HLx := Lib.hid (HL.out.trans (hLx.mono hwl))
          have HBx := Lib.hid (HB.out.below hLx hgl)
          have hlx := hLx.size
          have HX := Lib.hid hB8; have HW9 := Lib.hid hB9
          have h8l := hB8.lt
          have h9l := hB9.lt
          clear hLx hB8 hB9 C C0 C1 C2 C3 C4 C5 C6 hcj HL HB
          have x0 := HX.out.cell 0
          have x1 := HX.out.cell 1
          have x2 := HX.out.cell 2
          have x3 := HX.out.cell 3
          have x4 := HX.out.cell 4
          have x5 := HX.out.cell 5
          simp only [Tc.cells, List.getElem?_cons_zero, List.getElem?_cons_succ] at x0 x1 x2 x3 x4 x5
          have htk := take_split 1 hf 2 lo wa re by_ nx xc xch xb xk xs xd room hok
          have hcall := fun W h => Take_any (Fm.mk 1 hf ⟨2, lo, wa, re, by_, nx⟩) (Tc.mk xc xch xb xk xs xd) room g W hok h
          obtain ⟨⟨f', ok, er⟩, htf⟩ : ∃ r, r = takeF ⟨1, hf, ⟨2, lo, wa, re, by_, nx⟩⟩ ⟨xc, xch, xb, xk, xs, xd⟩ room := ⟨_, rfl⟩
          rw [← htf] at htk hcall
          simp only [Tc.val] at hcall
          have HC := Lib.hid hcall; have HT := Lib.hid htk
          clear htf hcall htk
          go_upto_region 12 with fail
          go_cut [10, 11] (fun p10 p11 wy => p10 = .bool ok ∧ p11 = .int .i64 er ∧ Keep [g] wc wy ∧ Blk wy g f'.cells 82)
          case first =>
            as_aux_lemma =>
              go_region_with (go_at_call 19; refine (HC.out _ HBx.out.drew).mono ?_; rintro e w5 ⟨rfl, hK5, hB5⟩)
              all_goals
                go_wp2_with fail
                go_meet
                exact ⟨rfl, rfl, ((Keep.refl _ _).drew).trans hK5, hB5⟩
          case rest =>
            obtain ⟨rfl, rfl, hK5, hB5⟩ := hcut
            have hBX := HX.out.keep hK5 (by simp; omega)
            have hBW := HW9.out.keep hK5 (by simp; omega)
            have hcl := hK5.size
            have HL5 := Lib.hid (HLx.out.trans (hK5.toBelowAt (by omega) (by simp; omega)))
            have HX5 := Lib.hid hBX; have HW5 := Lib.hid hBW; have HB5 := Lib.hid hB5
            have hgl5 := hB5.lt
            have h8l5 := hBX.lt
            have h9l5 := hBW.lt
            clear hK5 hBX hBW hB5 HX HW9 HBx HLx c6 x0 x1 x2 x3 x4 x5 HC
            have ht := HT.out
            obtain ⟨k1, k2, k3, k4, k5, k6⟩ := hok
            simp only at k1 k2 k3 k4 k5 k6
            rcases ht with ⟨e0, he0, ht⟩ | ⟨rfl, rfl, rfl, ht⟩ | ⟨m, rfl, rfl, rfl, rfl, ht⟩ | ⟨m, rfl, rfl, rfl, rfl, ht⟩ | ⟨rfl, rfl, ht⟩ | ⟨rfl, rfl, rfl, ht⟩ | ⟨rfl, rfl, rfl, rfl, rfl, ht⟩ | ⟨lo2, wa2, re2, rfl, rfl, rfl, ht⟩
            · as_aux_lemma =>
                injection ht with ht1 ht2; injection ht2 with ht2 ht3; subst ht1 ht2 ht3
                have he1 : (er != 0) = true := by rcases he0 with rfl | rfl <;> rfl
                clear he0
                have hst := State_any (Fm.mk 1 hf ⟨2, lo, wa, re, by_, nx⟩) g wc (by simp only; omega) HB5.out
                simp only [Wd.val] at hst
                have HST5 := Lib.hid hst; clear hst
                go_wp2_with fail
                refine HST5.out.mono ?_
                rintro e w6 ⟨rfl, hL6⟩
                have hl6 := hL6.size
                have HL6 := Lib.hid (HL5.out.trans (hL6.mono (by omega)))
                have HX6 := Lib.hid (HX5.out.below hL6 h8l5); have HW6 := Lib.hid (HW5.out.below hL6 h9l5); have HB6 := Lib.hid (HB5.out.below hL6 hgl5)
                clear hL6 HL5 HX5 HW5 HB5 HST5
                go_upto_region 16 with fail
                obtain ⟨b12, hb12⟩ : ∃ b12, b12 = w6.heap.size := ⟨_, rfl⟩
                refine gen_world (fun w' => Below w.heap.size w w' ∧ Blk w' b8 (Tc.mk xc xch xb xk xs xd).cells 30 ∧ Blk w' b9 (Wd.mk 2 lo wa re by_ nx).cells 34 ∧ Blk w' g (Fm.mk 1 hf ⟨2, lo, wa, re, by_, nx⟩).cells 82 ∧ Blk w' b12 (Wd.mk 2 lo wa re by_ nx).cells 34) ⟨HL6.out.alloc (by omega) _, HX6.out.alloc _, HW6.out.alloc _, HB6.out.alloc _, by rw [hb12]; exact Blk.new w6 _ _⟩ ?_
                rw [← hb12]
                rintro w7 ⟨hL7, hX7, hW7, hB7, hN7⟩
                have HL7 := Lib.hid hL7; have HX7 := Lib.hid hX7; have HW7 := Lib.hid hW7; have HB7 := Lib.hid hB7; have HN7 := Lib.hid hN7
                clear hL7 hX7 hW7 hB7 hN7 HL6 HX6 HW6 HB6 hb12 hl6
                have x0 := HX7.out.cell 0
                have x1 := HX7.out.cell 1
                have x2 := HX7.out.cell 2
                have x3 := HX7.out.cell 3
                have x4 := HX7.out.cell 4
                have x5 := HX7.out.cell 5
                simp only [Tc.cells, List.getElem?_cons_zero, List.getElem?_cons_succ] at x0 x1 x2 x3 x4 x5
                have q0 := HW7.out.cell 0
                have q1 := HW7.out.cell 1
                have q2 := HW7.out.cell 2
                have q3 := HW7.out.cell 3
                have q4 := HW7.out.cell 4
                have q5 := HW7.out.cell 5
                simp only [Wd.cells, List.getElem?_cons_zero, List.getElem?_cons_succ] at q0 q1 q2 q3 q4 q5
                have r0 := HN7.out.cell 0
                have r1 := HN7.out.cell 1
                have r2 := HN7.out.cell 2
                have r3 := HN7.out.cell 3
                have r4 := HN7.out.cell 4
                have r5 := HN7.out.cell 5
                simp only [Wd.cells, List.getElem?_cons_zero, List.getElem?_cons_succ] at r0 r1 r2 r3 r4 r5
                go_wp2_with fail
                go_roundg (n - (k + 1))
                case measure => omega
                case rel => exact ⟨k + 1, by omega, rfl, by go_num, HL7.out, _, by refine ⟨k1, k2, ?_, ?_, ?_, ?_⟩ <;> simp only <;> omega, rfl, rfl, HB7.out⟩
            · as_aux_lemma =>
                injection ht with ht1 ht2; injection ht2 with ht2 ht3; subst ht1 ht2 ht3
                have hst := State_any (Fm.mk 1 hf ⟨2, false, false, false, (by_ + 1) % 4, nx⟩) g wc (by simp only; omega) HB5.out
                simp only [Wd.val] at hst
                have HST5 := Lib.hid hst; clear hst
                go_wp2_with fail
                refine HST5.out.mono ?_
                rintro e w6 ⟨rfl, hL6⟩
                have hl6 := hL6.size
                have HL6 := Lib.hid (HL5.out.trans (hL6.mono (by omega)))
                have HX6 := Lib.hid (HX5.out.below hL6 h8l5); have HW6 := Lib.hid (HW5.out.below hL6 h9l5); have HB6 := Lib.hid (HB5.out.below hL6 hgl5)
                clear hL6 HL5 HX5 HW5 HB5 HST5
                go_upto_region 16 with fail
                obtain ⟨b12, hb12⟩ : ∃ b12, b12 = w6.heap.size := ⟨_, rfl⟩
                refine gen_world (fun w' => Below w.heap.size w w' ∧ Blk w' b8 (Tc.mk xc xch true true xs ⟨#[0]⟩).cells 30 ∧ Blk w' b9 (Wd.mk 2 lo wa re by_ nx).cells 34 ∧ Blk w' g (Fm.mk 1 hf ⟨2, false, false, false, (by_ + 1) % 4, nx⟩).cells 82 ∧ Blk w' b12 (Wd.mk 2 false false false ((by_ + 1) % 4) nx).cells 34) ⟨HL6.out.alloc (by omega) _, HX6.out.alloc _, HW6.out.alloc _, HB6.out.alloc _, by rw [hb12]; exact Blk.new w6 _ _⟩ ?_
                rw [← hb12]
                rintro w7 ⟨hL7, hX7, hW7, hB7, hN7⟩
                have HL7 := Lib.hid hL7; have HX7 := Lib.hid hX7; have HW7 := Lib.hid hW7; have HB7 := Lib.hid hB7; have HN7 := Lib.hid hN7
                clear hL7 hX7 hW7 hB7 hN7 HL6 HX6 HW6 HB6 hb12 hl6
                have x0 := HX7.out.cell 0
                have x1 := HX7.out.cell 1
                have x2 := HX7.out.cell 2
                have x3 := HX7.out.cell 3
                have x4 := HX7.out.cell 4
                have x5 := HX7.out.cell 5
                simp only [Tc.cells, List.getElem?_cons_zero, List.getElem?_cons_succ] at x0 x1 x2 x3 x4 x5
                have q0 := HW7.out.cell 0
                have q1 := HW7.out.cell 1
                have q2 := HW7.out.cell 2
                have q3 := HW7.out.cell 3
                have q4 := HW7.out.cell 4
                have q5 := HW7.out.cell 5
                simp only [Wd.cells, List.getElem?_cons_zero, List.getElem?_cons_succ] at q0 q1 q2 q3 q4 q5
                have r0 := HN7.out.cell 0
                have r1 := HN7.out.cell 1
                have r2 := HN7.out.cell 2
                have r3 := HN7.out.cell 3
                have r4 := HN7.out.cell 4
                have r5 := HN7.out.cell 5
                simp only [Wd.cells, List.getElem?_cons_zero, List.getElem?_cons_succ] at r0 r1 r2 r3 r4 r5
                cases lo
                all_goals
                  go_wp2_with fail
                  go_quiet (fail)
                  go_wp2_with fail
                  go_roundg (n - (k + 1))
                  case measure => omega
                  case rel => exact ⟨k + 1, by omega, rfl, by go_num, HL7.out.trans ((below_quiet _ _).1.mono HL7.out.size), _, by refine ⟨k1, k2, ?_, ?_, ?_, ?_⟩ <;> simp only <;> omega, rfl, rfl, HB7.out.drewN _⟩
            · as_aux_lemma =>
                injection ht with ht1 ht2; injection ht2 with ht2 ht3; subst ht1 ht2 ht3
                have hst := State_any (Fm.mk 1 hf ⟨2, true, wa, re, (by_ + 1) % 4, nx⟩) g wc (by simp only; omega) HB5.out
                simp only [Wd.val] at hst
                have HST5 := Lib.hid hst; clear hst
                go_wp2_with fail
                refine HST5.out.mono ?_
                rintro e w6 ⟨rfl, hL6⟩
                have hl6 := hL6.size
                have HL6 := Lib.hid (HL5.out.trans (hL6.mono (by omega)))
                have HX6 := Lib.hid (HX5.out.below hL6 h8l5); have HW6 := Lib.hid (HW5.out.below hL6 h9l5); have HB6 := Lib.hid (HB5.out.below hL6 hgl5)
                clear hL6 HL5 HX5 HW5 HB5 HST5
                go_upto_region 16 with fail
                obtain ⟨b12, hb12⟩ : ∃ b12, b12 = w6.heap.size := ⟨_, rfl⟩
                refine gen_world (fun w' => Below w.heap.size w w' ∧ Blk w' b8 (Tc.mk xc xch true true xs ⟨#[130, 0, m]⟩).cells 30 ∧ Blk w' b9 (Wd.mk 2 true wa re by_ nx).cells 34 ∧ Blk w' g (Fm.mk 1 hf ⟨2, true, wa, re, (by_ + 1) % 4, nx⟩).cells 82 ∧ Blk w' b12 (Wd.mk 2 true wa re ((by_ + 1) % 4) nx).cells 34) ⟨HL6.out.alloc (by omega) _, HX6.out.alloc _, HW6.out.alloc _, HB6.out.alloc _, by rw [hb12]; exact Blk.new w6 _ _⟩ ?_
                rw [← hb12]
                rintro w7 ⟨hL7, hX7, hW7, hB7, hN7⟩
                have HL7 := Lib.hid hL7; have HX7 := Lib.hid hX7; have HW7 := Lib.hid hW7; have HB7 := Lib.hid hB7; have HN7 := Lib.hid hN7
                clear hL7 hX7 hW7 hB7 hN7 HL6 HX6 HW6 HB6 hb12 hl6
                have x0 := HX7.out.cell 0
                have x1 := HX7.out.cell 1
                have x2 := HX7.out.cell 2
                have x3 := HX7.out.cell 3
                have x4 := HX7.out.cell 4
                have x5 := HX7.out.cell 5
                simp only [Tc.cells, List.getElem?_cons_zero, List.getElem?_cons_succ] at x0 x1 x2 x3 x4 x5
                have q0 := HW7.out.cell 0
                have q1 := HW7.out.cell 1
                have q2 := HW7.out.cell 2
                have q3 := HW7.out.cell 3
                have q4 := HW7.out.cell 4
                have q5 := HW7.out.cell 5
                simp only [Wd.cells, List.getElem?_cons_zero, List.getElem?_cons_succ] at q0 q1 q2 q3 q4 q5
                have r0 := HN7.out.cell 0
                have r1 := HN7.out.cell 1
                have r2 := HN7.out.cell 2
                have r3 := HN7.out.cell 3
                have r4 := HN7.out.cell 4
                have r5 := HN7.out.cell 5
                simp only [Wd.cells, List.getElem?_cons_zero, List.getElem?_cons_succ] at r0 r1 r2 r3 r4 r5
                go_wp2_with fail
                go_quiet (fail)
                go_wp2_with fail
                go_roundg (n - (k + 1))
                case measure => omega
                case rel => exact ⟨k + 1, by omega, rfl, by go_num, HL7.out.trans ((below_quiet _ _).1.mono HL7.out.size), _, by refine ⟨k1, k2, ?_, ?_, ?_, ?_⟩ <;> simp only <;> omega, rfl, rfl, HB7.out.drewN _⟩
            · as_aux_lemma =>
                injection ht with ht1 ht2; injection ht2 with ht2 ht3; subst ht1 ht2 ht3
                have hst := State_any (Fm.mk 1 hf ⟨2, false, false, false, (by_ + 1) % 4, (m.toNat : Int)⟩) g wc (by simp only; omega) HB5.out
                simp only [Wd.val] at hst
                have HST5 := Lib.hid hst; clear hst
                go_wp2_with fail
                refine HST5.out.mono ?_
                rintro e w6 ⟨rfl, hL6⟩
                have hl6 := hL6.size
                have HL6 := Lib.hid (HL5.out.trans (hL6.mono (by omega)))
                have HX6 := Lib.hid (HX5.out.below hL6 h8l5); have HW6 := Lib.hid (HW5.out.below hL6 h9l5); have HB6 := Lib.hid (HB5.out.below hL6 hgl5)
                clear hL6 HL5 HX5 HW5 HB5 HST5
                go_upto_region 16 with fail
                obtain ⟨b12, hb12⟩ : ∃ b12, b12 = w6.heap.size := ⟨_, rfl⟩
                refine gen_world (fun w' => Below w.heap.size w w' ∧ Blk w' b8 (Tc.mk xc xch true true xs ⟨#[130, 0, m]⟩).cells 30 ∧ Blk w' b9 (Wd.mk 2 false wa re by_ nx).cells 34 ∧ Blk w' g (Fm.mk 1 hf ⟨2, false, false, false, (by_ + 1) % 4, (m.toNat : Int)⟩).cells 82 ∧ Blk w' b12 (Wd.mk 2 false false false ((by_ + 1) % 4) (m.toNat : Int)).cells 34) ⟨HL6.out.alloc (by omega) _, HX6.out.alloc _, HW6.out.alloc _, HB6.out.alloc _, by rw [hb12]; exact Blk.new w6 _ _⟩ ?_
                rw [← hb12]
                rintro w7 ⟨hL7, hX7, hW7, hB7, hN7⟩
                have HL7 := Lib.hid hL7; have HX7 := Lib.hid hX7; have HW7 := Lib.hid hW7; have HB7 := Lib.hid hB7; have HN7 := Lib.hid hN7
                clear hL7 hX7 hW7 hB7 hN7 HL6 HX6 HW6 HB6 hb12 hl6
                have x0 := HX7.out.cell 0
                have x1 := HX7.out.cell 1
                have x2 := HX7.out.cell 2
                have x3 := HX7.out.cell 3
                have x4 := HX7.out.cell 4
                have x5 := HX7.out.cell 5
                simp only [Tc.cells, List.getElem?_cons_zero, List.getElem?_cons_succ] at x0 x1 x2 x3 x4 x5
                have q0 := HW7.out.cell 0
                have q1 := HW7.out.cell 1
                have q2 := HW7.out.cell 2
                have q3 := HW7.out.cell 3
                have q4 := HW7.out.cell 4
                have q5 := HW7.out.cell 5
                simp only [Wd.cells, List.getElem?_cons_zero, List.getElem?_cons_succ] at q0 q1 q2 q3 q4 q5
                have r0 := HN7.out.cell 0
                have r1 := HN7.out.cell 1
                have r2 := HN7.out.cell 2
                have r3 := HN7.out.cell 3
                have r4 := HN7.out.cell 4
                have r5 := HN7.out.cell 5
                simp only [Wd.cells, List.getElem?_cons_zero, List.getElem?_cons_succ] at r0 r1 r2 r3 r4 r5
                have hm255 := m.toNat_lt
                have hix : (((m.toNat : Nat) : Int) != wrap64 (((ByteArray.mk #[130, 0, m])[2]'(show 2 < 3 by decide)).toNat : Int)) = false := by
                  have e : wrap64 (((ByteArray.mk #[130, 0, m])[2]'(show 2 < 3 by decide)).toNat : Int) = (m.toNat : Int) := wrap64_byte m
                  rw [e]; simp
                go_wp2_with fail
                go_quiet (fail)
                go_wp2_with fail
                go_roundg (n - (k + 1))
                case measure => omega
                case rel => exact ⟨k + 1, by omega, rfl, by go_num, HL7.out.trans ((below_quiet _ _).1.mono HL7.out.size), _, by refine ⟨k1, k2, ?_, ?_, ?_, ?_⟩ <;> simp only <;> omega, rfl, rfl, HB7.out.drewN _⟩
            · as_aux_lemma =>
                injection ht with ht1 ht2; injection ht2 with ht2 ht3; subst ht1 ht2 ht3
                have hst := State_any (Fm.mk 1 hf ⟨2, lo, wa, re, (by_ + 1) % 4, nx⟩) g wc (by simp only; omega) HB5.out
                simp only [Wd.val] at hst
                have HST5 := Lib.hid hst; clear hst
                go_wp2_with fail
                refine HST5.out.mono ?_
                rintro e w6 ⟨rfl, hL6⟩
                have hl6 := hL6.size
                have HL6 := Lib.hid (HL5.out.trans (hL6.mono (by omega)))
                have HX6 := Lib.hid (HX5.out.below hL6 h8l5); have HW6 := Lib.hid (HW5.out.below hL6 h9l5); have HB6 := Lib.hid (HB5.out.below hL6 hgl5)
                clear hL6 HL5 HX5 HW5 HB5 HST5
                go_upto_region 16 with fail
                obtain ⟨b12, hb12⟩ : ∃ b12, b12 = w6.heap.size := ⟨_, rfl⟩
                refine gen_world (fun w' => Below w.heap.size w w' ∧ Blk w' b8 (Tc.mk xc xch true false xs xd).cells 30 ∧ Blk w' b9 (Wd.mk 2 lo wa re by_ nx).cells 34 ∧ Blk w' g (Fm.mk 1 hf ⟨2, lo, wa, re, (by_ + 1) % 4, nx⟩).cells 82 ∧ Blk w' b12 (Wd.mk 2 lo wa re ((by_ + 1) % 4) nx).cells 34) ⟨HL6.out.alloc (by omega) _, HX6.out.alloc _, HW6.out.alloc _, HB6.out.alloc _, by rw [hb12]; exact Blk.new w6 _ _⟩ ?_
                have h912 : b9 ≠ b12 := by rw [hb12]; have := HW6.out.lt; omega
                have h129 := h912.symm
                rw [← hb12]
                rintro w7 ⟨hL7, hX7, hW7, hB7, hN7⟩
                have HL7 := Lib.hid hL7; have HX7 := Lib.hid hX7; have HW7 := Lib.hid hW7; have HB7 := Lib.hid hB7; have HN7 := Lib.hid hN7
                clear hL7 hX7 hW7 hB7 hN7 HL6 HX6 HW6 HB6 hb12 hl6
                have x0 := HX7.out.cell 0
                have x1 := HX7.out.cell 1
                have x2 := HX7.out.cell 2
                have x3 := HX7.out.cell 3
                have x4 := HX7.out.cell 4
                have x5 := HX7.out.cell 5
                simp only [Tc.cells, List.getElem?_cons_zero, List.getElem?_cons_succ] at x0 x1 x2 x3 x4 x5
                have q0 := HW7.out.cell 0
                have q1 := HW7.out.cell 1
                have q2 := HW7.out.cell 2
                have q3 := HW7.out.cell 3
                have q4 := HW7.out.cell 4
                have q5 := HW7.out.cell 5
                simp only [Wd.cells, List.getElem?_cons_zero, List.getElem?_cons_succ] at q0 q1 q2 q3 q4 q5
                have r0 := HN7.out.cell 0
                have r1 := HN7.out.cell 1
                have r2 := HN7.out.cell 2
                have r3 := HN7.out.cell 3
                have r4 := HN7.out.cell 4
                have r5 := HN7.out.cell 5
                simp only [Wd.cells, List.getElem?_cons_zero, List.getElem?_cons_succ] at r0 r1 r2 r3 r4 r5
                have z0 := HW7.out.free 0
                have z1 := HW7.out.free 1
                have z2 := HW7.out.free 2
                have z3 := HW7.out.free 3
                have z4 := HW7.out.free 4
                have z5 := HW7.out.free 5
                go_wp2_with fail
                go_roundg (n - (k + 1))
                case measure => omega
                case rel => exact ⟨k + 1, by omega, rfl, by go_num, HL7.out.setCell (by simp; omega) _, _, by refine ⟨k1, k2, ?_, ?_, ?_, ?_⟩ <;> simp only <;> omega, rfl, rfl, HB7.out.set_far (by simp; omega) _⟩
            · as_aux_lemma =>
                injection ht with ht1 ht2; injection ht2 with ht2 ht3; subst ht1 ht2 ht3
                have hst := State_any (Fm.mk 1 hf ⟨2, true, wa, re, by_, nx⟩) g wc (by simp only; omega) HB5.out
                simp only [Wd.val] at hst
                have HST5 := Lib.hid hst; clear hst
                go_wp2_with fail
                refine HST5.out.mono ?_
                rintro e w6 ⟨rfl, hL6⟩
                have hl6 := hL6.size
                have HL6 := Lib.hid (HL5.out.trans (hL6.mono (by omega)))
                have HX6 := Lib.hid (HX5.out.below hL6 h8l5); have HW6 := Lib.hid (HW5.out.below hL6 h9l5); have HB6 := Lib.hid (HB5.out.below hL6 hgl5)
                clear hL6 HL5 HX5 HW5 HB5 HST5
                go_upto_region 16 with fail
                obtain ⟨b12, hb12⟩ : ∃ b12, b12 = w6.heap.size := ⟨_, rfl⟩
                refine gen_world (fun w' => Below w.heap.size w w' ∧ Blk w' b8 (Tc.mk xc xch false false xs xd).cells 30 ∧ Blk w' b9 (Wd.mk 2 true wa re by_ nx).cells 34 ∧ Blk w' g (Fm.mk 1 hf ⟨2, true, wa, re, by_, nx⟩).cells 82 ∧ Blk w' b12 (Wd.mk 2 true wa re by_ nx).cells 34) ⟨HL6.out.alloc (by omega) _, HX6.out.alloc _, HW6.out.alloc _, HB6.out.alloc _, by rw [hb12]; exact Blk.new w6 _ _⟩ ?_
                rw [← hb12]
                rintro w7 ⟨hL7, hX7, hW7, hB7, hN7⟩
                have HL7 := Lib.hid hL7; have HX7 := Lib.hid hX7; have HW7 := Lib.hid hW7; have HB7 := Lib.hid hB7; have HN7 := Lib.hid hN7
                clear hL7 hX7 hW7 hB7 hN7 HL6 HX6 HW6 HB6 hb12 hl6
                have x0 := HX7.out.cell 0
                have x1 := HX7.out.cell 1
                have x2 := HX7.out.cell 2
                have x3 := HX7.out.cell 3
                have x4 := HX7.out.cell 4
                have x5 := HX7.out.cell 5
                simp only [Tc.cells, List.getElem?_cons_zero, List.getElem?_cons_succ] at x0 x1 x2 x3 x4 x5
                have q0 := HW7.out.cell 0
                have q1 := HW7.out.cell 1
                have q2 := HW7.out.cell 2
                have q3 := HW7.out.cell 3
                have q4 := HW7.out.cell 4
                have q5 := HW7.out.cell 5
                simp only [Wd.cells, List.getElem?_cons_zero, List.getElem?_cons_succ] at q0 q1 q2 q3 q4 q5
                have r0 := HN7.out.cell 0
                have r1 := HN7.out.cell 1
                have r2 := HN7.out.cell 2
                have r3 := HN7.out.cell 3
                have r4 := HN7.out.cell 4
                have r5 := HN7.out.cell 5
                simp only [Wd.cells, List.getElem?_cons_zero, List.getElem?_cons_succ] at r0 r1 r2 r3 r4 r5
                go_wp2_with fail
                go_roundg (n - (k + 1))
                case measure => omega
                case rel => exact ⟨k + 1, by omega, rfl, by go_num, HL7.out, _, by refine ⟨k1, k2, ?_, ?_, ?_, ?_⟩ <;> simp only <;> omega, rfl, rfl, HB7.out⟩
            · as_aux_lemma =>
                injection ht with ht1 ht2; injection ht2 with ht2 ht3; subst ht1 ht2 ht3
                have hst := State_any (Fm.mk 1 hf ⟨2, false, wa, false, by_, (xs + 1) % 256⟩) g wc (by simp only; omega) HB5.out
                simp only [Wd.val] at hst
                have HST5 := Lib.hid hst; clear hst
                go_wp2_with fail
                refine HST5.out.mono ?_
                rintro e w6 ⟨rfl, hL6⟩
                have hl6 := hL6.size
                have HL6 := Lib.hid (HL5.out.trans (hL6.mono (by omega)))
                have HX6 := Lib.hid (HX5.out.below hL6 h8l5); have HW6 := Lib.hid (HW5.out.below hL6 h9l5); have HB6 := Lib.hid (HB5.out.below hL6 hgl5)
                clear hL6 HL5 HX5 HW5 HB5 HST5
                go_upto_region 16 with fail
                obtain ⟨b12, hb12⟩ : ∃ b12, b12 = w6.heap.size := ⟨_, rfl⟩
                refine gen_world (fun w' => Below w.heap.size w w' ∧ Blk w' b8 (Tc.mk xc xch false false xs xd).cells 30 ∧ Blk w' b9 (Wd.mk 2 false wa re by_ xs).cells 34 ∧ Blk w' g (Fm.mk 1 hf ⟨2, false, wa, false, by_, (xs + 1) % 256⟩).cells 82 ∧ Blk w' b12 (Wd.mk 2 false wa false by_ ((xs + 1) % 256)).cells 34) ⟨HL6.out.alloc (by omega) _, HX6.out.alloc _, HW6.out.alloc _, HB6.out.alloc _, by rw [hb12]; exact Blk.new w6 _ _⟩ ?_
                rw [← hb12]
                rintro w7 ⟨hL7, hX7, hW7, hB7, hN7⟩
                have HL7 := Lib.hid hL7; have HX7 := Lib.hid hX7; have HW7 := Lib.hid hW7; have HB7 := Lib.hid hB7; have HN7 := Lib.hid hN7
                clear hL7 hX7 hW7 hB7 hN7 HL6 HX6 HW6 HB6 hb12 hl6
                have x0 := HX7.out.cell 0
                have x1 := HX7.out.cell 1
                have x2 := HX7.out.cell 2
                have x3 := HX7.out.cell 3
                have x4 := HX7.out.cell 4
                have x5 := HX7.out.cell 5
                simp only [Tc.cells, List.getElem?_cons_zero, List.getElem?_cons_succ] at x0 x1 x2 x3 x4 x5
                have q0 := HW7.out.cell 0
                have q1 := HW7.out.cell 1
                have q2 := HW7.out.cell 2
                have q3 := HW7.out.cell 3
                have q4 := HW7.out.cell 4
                have q5 := HW7.out.cell 5
                simp only [Wd.cells, List.getElem?_cons_zero, List.getElem?_cons_succ] at q0 q1 q2 q3 q4 q5
                have r0 := HN7.out.cell 0
                have r1 := HN7.out.cell 1
                have r2 := HN7.out.cell 2
                have r3 := HN7.out.cell 3
                have r4 := HN7.out.cell 4
                have r5 := HN7.out.cell 5
                simp only [Wd.cells, List.getElem?_cons_zero, List.getElem?_cons_succ] at r0 r1 r2 r3 r4 r5
                have c6 := (HL7.out.cell (p := ⟨b, off + k * 8 + 6, none⟩) hbl).trans HC6.out
                go_wp2_with fail
                go_roundg (n - (k + 1))
                case measure => omega
                case rel => exact ⟨k + 1, by omega, rfl, by go_num, HL7.out, _, by refine ⟨k1, k2, ?_, ?_, ?_, ?_⟩ <;> simp only <;> omega, rfl, rfl, HB7.out⟩
            · as_aux_lemma =>
                injection ht with ht1 ht2; injection ht2 with ht2 ht3; subst ht1 ht2 ht3
                have hst := State_any (Fm.mk 1 hf ⟨2, lo2, wa2, re2, by_, nx⟩) g wc (by simp only; omega) HB5.out
                simp only [Wd.val] at hst
                have HST5 := Lib.hid hst; clear hst
                go_wp2_with fail
                refine HST5.out.mono ?_
                rintro e w6 ⟨rfl, hL6⟩
                have hl6 := hL6.size
                have HL6 := Lib.hid (HL5.out.trans (hL6.mono (by omega)))
                have HX6 := Lib.hid (HX5.out.below hL6 h8l5); have HW6 := Lib.hid (HW5.out.below hL6 h9l5); have HB6 := Lib.hid (HB5.out.below hL6 hgl5)
                clear hL6 HL5 HX5 HW5 HB5 HST5
                go_upto_region 16 with fail
                obtain ⟨b12, hb12⟩ : ∃ b12, b12 = w6.heap.size := ⟨_, rfl⟩
                refine gen_world (fun w' => Below w.heap.size w w' ∧ Blk w' b8 (Tc.mk xc xch false false xs xd).cells 30 ∧ Blk w' b9 (Wd.mk 2 false wa re by_ nx).cells 34 ∧ Blk w' g (Fm.mk 1 hf ⟨2, lo2, wa2, re2, by_, nx⟩).cells 82 ∧ Blk w' b12 (Wd.mk 2 lo2 wa2 re2 by_ nx).cells 34) ⟨HL6.out.alloc (by omega) _, HX6.out.alloc _, HW6.out.alloc _, HB6.out.alloc _, by rw [hb12]; exact Blk.new w6 _ _⟩ ?_
                rw [← hb12]
                rintro w7 ⟨hL7, hX7, hW7, hB7, hN7⟩
                have HL7 := Lib.hid hL7; have HX7 := Lib.hid hX7; have HW7 := Lib.hid hW7; have HB7 := Lib.hid hB7; have HN7 := Lib.hid hN7
                clear hL7 hX7 hW7 hB7 hN7 HL6 HX6 HW6 HB6 hb12 hl6
                have x0 := HX7.out.cell 0
                have x1 := HX7.out.cell 1
                have x2 := HX7.out.cell 2
                have x3 := HX7.out.cell 3
                have x4 := HX7.out.cell 4
                have x5 := HX7.out.cell 5
                simp only [Tc.cells, List.getElem?_cons_zero, List.getElem?_cons_succ] at x0 x1 x2 x3 x4 x5
                have q0 := HW7.out.cell 0
                have q1 := HW7.out.cell 1
                have q2 := HW7.out.cell 2
                have q3 := HW7.out.cell 3
                have q4 := HW7.out.cell 4
                have q5 := HW7.out.cell 5
                simp only [Wd.cells, List.getElem?_cons_zero, List.getElem?_cons_succ] at q0 q1 q2 q3 q4 q5
                have r0 := HN7.out.cell 0
                have r1 := HN7.out.cell 1
                have r2 := HN7.out.cell 2
                have r3 := HN7.out.cell 3
                have r4 := HN7.out.cell 4
                have r5 := HN7.out.cell 5
                simp only [Wd.cells, List.getElem?_cons_zero, List.getElem?_cons_succ] at r0 r1 r2 r3 r4 r5
                go_wp2_with fail
                go_roundg (n - (k + 1))
                case measure => omega
                case rel => exact ⟨k + 1, by omega, rfl, by go_num, HL7.out, _, by refine ⟨k1, k2, ?_, ?_, ?_, ?_⟩ <;> simp only <;> omega, rfl, rfl, HB7.out⟩
      · obtain rfl : k = n := by omega
        go_wp2_with fail
        go_ret
        exact ⟨rfl, HL.out⟩
end Go.Proofs.Ytebgehmgjafblaa
