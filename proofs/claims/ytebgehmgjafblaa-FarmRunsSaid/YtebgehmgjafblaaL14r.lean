/- What is proved here: the walk of the law about runs, made with good numbers. -/
import Derived.Test.YtebgehmgjafblaaS14
import Derived.Test.YtebgehmgjafblaaF8
import Derived.Test.YtebgehmgjafblaaF9
import Derived.Test.YtebgehmgjafblaaR14z
import Derived.Test.YtebgehmgjafblaaL14d
import Derived.Test.YtebgehmgjafblaaCalm
import Derived.Deep.DeepCutAuto
import Derived.Deep.LoopGhost
set_option linter.unusedVariables false
set_option linter.unusedSimpArgs false
namespace Go.Proofs.Ytebgehmgjafblaa
open Go.RowKit
set_option maxHeartbeats 8000000 in
set_option maxRecDepth 100000 in
theorem FarmRuns_ok (x y z : Int) (a : Option Addr) (n cap : Nat) (S : Nat → Stp) (w : World) (hn : n ≤ 9223372036854775807) (hn5 : ¬ 500 < n) (hS : StepsAt w a n S) (hG : newG x y z) :
    Calls Try.prog 9 #[.agg #[.int .i64 x, .int .i64 y, .int .i64 z], .slice a n cap] w fun e w' => e = .returned (.bool true) ∧ Below w.heap.size w w' := by
  have HSH := Lib.hid (fun w => shown14_any w)
  have HN := Lib.hid (fun w => New_any x y z w hG)
  have HR := Lib.hid (fun w => rNew_ok x y z w hG)
  have HS := Lib.hid hS
  have HG := Lib.hid hG
  clear hS hG
  have HL := Lib.hid ((Below.refl w.heap.size w).alloc (Nat.le_refl _) (Obj.cells #[.int .i64 x, .int .i64 y, .int .i64 z] 70))
  have HA := Lib.hid (Blk.new w [.int .i64 x, .int .i64 y, .int .i64 z] 70)
  go_enter Try.func9, Try.ntmps9
  go_wp2_with fail
  refine (HSH.out _).mono ?_
  rintro e w1 ⟨rfl, hL⟩
  replace HL := Lib.hid (HL.out.trans (hL.mono HL.out.size))
  replace HA := Lib.hid (HA.out.below hL HA.out.lt)
  clear hL
  have a0 := HA.out.cell 0
  have a1 := HA.out.cell 1
  have a2 := HA.out.cell 2
  simp only [List.getElem?_cons_zero, List.getElem?_cons_succ] at a0 a1 a2
  go_wp2_with fail
  refine (HN.out _).mono ?_
  rintro e w2 ⟨rfl, hL, hB⟩
  obtain ⟨g, hg⟩ : ∃ g, g = w1.heap.size := ⟨_, rfl⟩
  rw [← hg] at hB ⊢
  have hgw : w.heap.size < g := by rw [hg]; have := HA.out.lt; omega
  clear a0 a1 a2 hg
  replace HL := Lib.hid (HL.out.trans (hL.mono HL.out.size))
  replace HA := Lib.hid (HA.out.below hL HA.out.lt)
  have HF := Lib.hid hB
  clear hL hB
  have a0 := HA.out.cell 0
  have a1 := HA.out.cell 1
  have a2 := HA.out.cell 2
  simp only [List.getElem?_cons_zero, List.getElem?_cons_succ] at a0 a1 a2
  go_wp2_with fail
  refine (HR.out _).mono ?_
  rintro e w3 ⟨rfl, hL, hB⟩
  obtain ⟨q, hq⟩ : ∃ q, q = w2.heap.size := ⟨_, rfl⟩
  rw [← hq] at hB ⊢
  have hgq : g < q := by rw [hq]; exact HF.out.lt
  clear a0 a1 a2 hq HA
  replace HL := Lib.hid (HL.out.trans (hL.mono HL.out.size))
  replace HF := Lib.hid (HF.out.below hL HF.out.lt)
  have HQ := Lib.hid hB
  clear hL hB
  go_wp2_with fail
  go_loopg [9] n (fun m i wr => ∃ k : Nat, k ≤ n ∧ m = n - k ∧ i = .int .i64 k ∧ Below w.heap.size w wr ∧ ∃ f : Fm, f.ok ∧ 0 ≤ f.st.chan ∧ f.st.chan ≤ 7 ∧ Blk wr g f.cells 82 ∧ Blk wr q f.dbl.cells 78)
  case atStart =>
    have hG := HG.out
    obtain ⟨h0, h1, h2, h3, h4, h5, h6⟩ := hG
    exact ⟨0, by omega, by omega, rfl, HL.out, Fm.start x (z / 2) y, ⟨by simp [Fm.start]; omega, by simp [Fm.start]; omega, by simp [Fm.start], by simp [Fm.start], by simp [Fm.start], by simp [Fm.start]⟩, h2, h3, HF.out, by have := HQ.out; rw [show z = 2 * (z / 2) by omega] at this; exact this⟩
  case round =>
    clear HL HF HQ HG HN HR HSH
    obtain ⟨k, hk, hm, rfl, hL, f, hok, hc0, hc7, hB, hQ⟩ := hrel
    have HL := Lib.hid hL; have HF := Lib.hid hB; have HQ := Lib.hid hQ; clear hL hB hQ
    by_cases hlt : k < n
    case neg =>
      go_wp2_with fail
      go_ret
      exact ⟨rfl, HL.out⟩
    obtain ⟨b, off, rfl, hbl, hC, hwf⟩ := HS.out k hlt
    obtain ⟨sk, hsk⟩ : ∃ sk, sk = S k := ⟨_, rfl⟩
    rw [← hsk] at hC hwf
    clear hsk
    obtain ⟨⟨xc, xch, xb, xk, xs, xd⟩, room, free⟩ := sk
    have C := fun j v h => (HL.out.cell (p := ⟨b, off + k * 8 + j, none⟩) hbl).trans (hC j v h)
    have C0 := C 0 _ rfl
    have C1 := C 1 _ rfl
    have C2 := C 2 _ rfl
    have C3 := C 3 _ rfl
    have C4 := C 4 _ rfl
    have C5 := C 5 _ rfl
    have C6 := C 6 _ rfl
    have C7 := C 7 _ rfl
    simp only [Nat.add_zero] at C0
    clear hC C hwf
    have HQ0 := HQ
    by_cases hsz : 1000 < xd.size
    · have hdz : decide (1000 < (xd.size : Int)) = true := by rw [decide_eq_true_eq]; omega
      go_wp2_with fail
      go_ret
      exact ⟨rfl, HL.out.alloc HL.out.size _⟩
    · have hdz : decide (1000 < (xd.size : Int)) = false := by rw [decide_eq_false_iff_not]; omega
      cases free
      · go_wp2_with fail
        have HL := Lib.hid (HL.out.alloc HL.out.size (Obj.cells #[.int .i64 xc, .int .i64 xch, .bool xb, .bool xk, .int .i64 xs, .string xd, .bool room, .bool false] 32))
        have HF := Lib.hid (HF.out.alloc (Obj.cells #[.int .i64 xc, .int .i64 xch, .bool xb, .bool xk, .int .i64 xs, .string xd, .bool room, .bool false] 32))
        have HQ := Lib.hid (HQ.out.alloc (Obj.cells #[.int .i64 xc, .int .i64 xch, .bool xb, .bool xk, .int .i64 xs, .string xd, .bool room, .bool false] 32))
        have HX := Lib.hid (Blk.new wr [.int .i64 xc, .int .i64 xch, .bool xb, .bool xk, .int .i64 xs, .string xd, .bool room, .bool false] 32)
        have hqp : q < wr.heap.size := by have := HQ.out.lt; simp at this; exact HQ0.out.lt
        obtain ⟨p, hp⟩ : ∃ p, p = wr.heap.size := ⟨_, rfl⟩
        rw [← hp] at HX hqp ⊢
        clear hp C0 C1 C2 C3 C4 C5 C6 C7
        have hok2 := hok
        have hd0 := hc0
        have hd7 := hc7
        obtain ⟨f2, hf2⟩ : ∃ f2 : Fm, f2 = f := ⟨_, rfl⟩
        rw [← hf2] at hok2 hd0 hd7 HF HQ
        clear hf2 hok hc0 hc7
        have htk := takeF_ok f2 ⟨xc, xch, xb, xk, xs, xd⟩ room hok2
        have hcall := fun W h => Take_any f2 (Tc.mk xc xch xb xk xs xd) room g W hok2 h
        have hcal2 := fun W h => rTake_any f2 (Tc.mk xc xch xb xk xs xd) room q W hok2 h
        obtain ⟨⟨f', ok, er⟩, htf⟩ : ∃ r, r = takeF f2 ⟨xc, xch, xb, xk, xs, xd⟩ room := ⟨_, rfl⟩
        rw [← htf] at htk hcall hcal2
        simp only [Tc.val] at hcall hcal2
        obtain ⟨hok3, hch3⟩ := htk
        simp only at hok3 hch3
        rw [← hch3] at hd0 hd7
        have HC1 := Lib.hid hcall; have HC2 := Lib.hid hcal2
        clear hcall hcal2 htf hch3 hok2
        have hgood : f'.st.good = true := by rw [Wd.good_iff]; obtain ⟨_, _, k3, k4, k5, k6⟩ := hok3; exact ⟨hd0, hd7, k3, k4, k5, k6⟩
        obtain ⟨c1, b1, n1, e1, e2, e3, e4⟩ := f'.st.good_nat hgood
        obtain ⟨cr', h', st'⟩ := f'
        simp only at e4 hok3
        have hh0 : h' ≠ 0 := by have := hok3.1; simp only at this; omega
        generalize st'.lockout = lo1 at e4
        generalize st'.wait = wa1 at e4
        generalize st'.retx = re1 at e4
        subst e4
        have HK3 := Lib.hid hok3
        clear hok3 hgood hd0 hd7
        have hpw := fun W => rPutWord_ok c1 b1 n1 lo1 wa1 re1 W e1 e2 e3
        have hst := fun W h => State_any (Fm.mk cr' h' ⟨c1, lo1, wa1, re1, b1, n1⟩) g W hh0 h
        have hwd := fun W h => Word_any cr' h' c1 b1 n1 lo1 wa1 re1 g W hh0 e1 e2 e3 h
        simp only [Wd.val] at hpw hst
        obtain ⟨N, hN⟩ : ∃ N, N = wordN c1 b1 n1 lo1 wa1 re1 := ⟨_, rfl⟩
        rw [← hN] at hpw hwd
        have HPW := Lib.hid hpw; have HST := Lib.hid hst; have HWD := Lib.hid hwd
        clear hpw hst hwd hN
        refine (HC1.out _ HF.out).mono ?_
        rintro e v3 ⟨rfl, hK, hB⟩
        replace HL := Lib.hid (HL.out.trans (hK.toBelowAt HL.out.size (by simp; omega)))
        replace HF := Lib.hid (hB)
        replace HQ := Lib.hid (HQ.out.keep hK (by simp; omega))
        replace HX := Lib.hid (HX.out.keep hK (by simp; omega))
        clear hK hB
        have x0 := HX.out.cell 0
        have x1 := HX.out.cell 1
        have x2 := HX.out.cell 2
        have x3 := HX.out.cell 3
        have x4 := HX.out.cell 4
        have x5 := HX.out.cell 5
        have x6 := HX.out.cell 6
        have x7 := HX.out.cell 7
        simp only [List.getElem?_cons_zero, List.getElem?_cons_succ] at x0 x1 x2 x3 x4 x5 x6 x7
        go_wp2_with fail
        refine (HC2.out _ HQ.out).mono ?_
        rintro e v4 ⟨rfl, hK, hB⟩
        clear x0 x1 x2 x3 x4 x5 x6 x7
        replace HL := Lib.hid (HL.out.trans (hK.toBelowAt HL.out.size (by simp; omega)))
        replace HF := Lib.hid (HF.out.keep hK (by simp; omega))
        replace HQ := Lib.hid (hB)
        replace HX := Lib.hid (HX.out.keep hK (by simp; omega))
        clear hK hB
        have x0 := HX.out.cell 0
        have x1 := HX.out.cell 1
        have x2 := HX.out.cell 2
        have x3 := HX.out.cell 3
        have x4 := HX.out.cell 4
        have x5 := HX.out.cell 5
        have x6 := HX.out.cell 6
        have x7 := HX.out.cell 7
        simp only [List.getElem?_cons_zero, List.getElem?_cons_succ] at x0 x1 x2 x3 x4 x5 x6 x7
        clear x0 x1 x2 x3 x4 x5 x6 x7
        have c0 := HQ.out.cell 0
        have c1 := HQ.out.cell 1
        have c2 := HQ.out.cell 2
        have c3 := HQ.out.cell 3
        have c4 := HQ.out.cell 4
        have c5 := HQ.out.cell 5
        have c6 := HQ.out.cell 6
        have c7 := HQ.out.cell 7
        simp only [Fm.cells, Fm.dbl, List.getElem?_cons_zero, List.getElem?_cons_succ] at c0 c1 c2 c3 c4 c5 c6 c7
        go_wp2_with fail
        refine (HPW.out _).mono ?_
        rintro e v5 ⟨rfl, hL⟩
        clear c0 c1 c2 c3 c4 c5 c6 c7
        replace HL := Lib.hid (HL.out.trans (hL.mono HL.out.size))
        replace HF := Lib.hid (HF.out.below hL HF.out.lt)
        replace HQ := Lib.hid (HQ.out.below hL HQ.out.lt)
        clear hL HX
        go_wp2_with fail
        have c0 := cl_blk HQ.out 0
        have c1_ := cl_blk HQ.out 1
        have c2 := cl_blk HQ.out 2
        have c3 := cl_blk HQ.out 3
        have c4 := cl_blk HQ.out 4
        have c5 := cl_blk HQ.out 5
        have c6 := cl_blk HQ.out 6
        have c7 := cl_blk HQ.out 7
        simp only [Fm.cells, Fm.dbl, List.getElem?_cons_zero, List.getElem?_cons_succ] at c0 c1_ c2 c3 c4 c5 c6 c7
        have HB' := Lib.hid (fun (y : Cl v5.heap.size v5) => HF.out.below y.below HF.out.lt)
        refine region_calm v5.heap.size (by kernel_rfl) (by kernel_rfl) ?_
        repeat (go_big_quiet_step ((first | (go_at_call 18; exact cl_call _ (Nat.le_refl _) (HST.out _ (HB'.out _))) | (go_at_call 42; exact cl_call _ (Nat.le_refl _) (HWD.out _ (HB'.out _))))))
        refine wpQuiet_nil ?_
        intro v6 hL
        replace HL := Lib.hid (HL.out.trans (hL.mono HL.out.size))
        replace HF := Lib.hid (HF.out.below hL HF.out.lt)
        replace HQ := Lib.hid (HQ.out.below hL HQ.out.lt)
        clear hL c0 c1_ c2 c3 c4 c5 c6 c7 HB'
        go_wp2_with fail
        go_roundg (n - (k + 1))
        case rel => exact ⟨k + 1, by omega, rfl, by go_num, HL.out, _, HK3.out, by simp, by simp only; omega, HF.out, HQ.out⟩
        case measure => omega
      · go_wp2_with fail
        have HL := Lib.hid (HL.out.alloc HL.out.size (Obj.cells #[.int .i64 xc, .int .i64 xch, .bool xb, .bool xk, .int .i64 xs, .string xd, .bool room, .bool true] 32))
        have HF := Lib.hid (HF.out.alloc (Obj.cells #[.int .i64 xc, .int .i64 xch, .bool xb, .bool xk, .int .i64 xs, .string xd, .bool room, .bool true] 32))
        have HQ := Lib.hid (HQ.out.alloc (Obj.cells #[.int .i64 xc, .int .i64 xch, .bool xb, .bool xk, .int .i64 xs, .string xd, .bool room, .bool true] 32))
        have HX := Lib.hid (Blk.new wr [.int .i64 xc, .int .i64 xch, .bool xb, .bool xk, .int .i64 xs, .string xd, .bool room, .bool true] 32)
        have hqp : q < wr.heap.size := by have := HQ.out.lt; simp at this; exact HQ0.out.lt
        obtain ⟨p, hp⟩ : ∃ p, p = wr.heap.size := ⟨_, rfl⟩
        rw [← hp] at HX hqp ⊢
        clear hp C0 C1 C2 C3 C4 C5 C6 C7
        refine (Free_any f g _ (by have := hok.1; omega) HF.out).mono ?_
        rintro e v1 ⟨rfl, hK, hB⟩
        replace HL := Lib.hid (HL.out.trans (hK.toBelowAt HL.out.size (by simp; omega)))
        replace HF := Lib.hid (hB)
        replace HQ := Lib.hid (HQ.out.keep hK (by simp; omega))
        replace HX := Lib.hid (HX.out.keep hK (by simp; omega))
        clear hK hB
        go_wp2_with fail
        refine (rFree_any f.dbl q _ HQ.out).mono ?_
        rintro e v2 ⟨rfl, hK, hB⟩
        replace HL := Lib.hid (HL.out.trans (hK.toBelowAt HL.out.size (by simp; omega)))
        replace HF := Lib.hid (HF.out.keep hK (by simp; omega))
        replace HQ := Lib.hid (hB)
        replace HX := Lib.hid (HX.out.keep hK (by simp; omega))
        clear hK hB
        obtain ⟨f2, hf2⟩ : ∃ f2 : Fm, f2 = Fm.mk f.craft f.half ⟨f.st.chan, f.st.lockout, false, f.st.retx, f.st.bypd, f.st.next⟩ := ⟨_, rfl⟩
        have hQ2 := HQ.out
        simp only [Fm.dbl] at hQ2
        replace HF := Lib.hid (show Blk v2 g f2.cells 82 by rw [hf2]; exact HF.out)
        replace HQ := Lib.hid (show Blk v2 q f2.dbl.cells 78 by rw [hf2]; exact hQ2)
        have hok2 : f2.ok := by rw [hf2]; exact hok
        have hd0 : 0 ≤ f2.st.chan := by rw [hf2]; exact hc0
        have hd7 : f2.st.chan ≤ 7 := by rw [hf2]; exact hc7
        clear hf2 hQ2 hok hc0 hc7
        have htk := takeF_ok f2 ⟨xc, xch, xb, xk, xs, xd⟩ room hok2
        have hcall := fun W h => Take_any f2 (Tc.mk xc xch xb xk xs xd) room g W hok2 h
        have hcal2 := fun W h => rTake_any f2 (Tc.mk xc xch xb xk xs xd) room q W hok2 h
        obtain ⟨⟨f', ok, er⟩, htf⟩ : ∃ r, r = takeF f2 ⟨xc, xch, xb, xk, xs, xd⟩ room := ⟨_, rfl⟩
        rw [← htf] at htk hcall hcal2
        simp only [Tc.val] at hcall hcal2
        obtain ⟨hok3, hch3⟩ := htk
        simp only at hok3 hch3
        rw [← hch3] at hd0 hd7
        have HC1 := Lib.hid hcall; have HC2 := Lib.hid hcal2
        clear hcall hcal2 htf hch3 hok2
        have hgood : f'.st.good = true := by rw [Wd.good_iff]; obtain ⟨_, _, k3, k4, k5, k6⟩ := hok3; exact ⟨hd0, hd7, k3, k4, k5, k6⟩
        obtain ⟨c1, b1, n1, e1, e2, e3, e4⟩ := f'.st.good_nat hgood
        obtain ⟨cr', h', st'⟩ := f'
        simp only at e4 hok3
        have hh0 : h' ≠ 0 := by have := hok3.1; simp only at this; omega
        generalize st'.lockout = lo1 at e4
        generalize st'.wait = wa1 at e4
        generalize st'.retx = re1 at e4
        subst e4
        have HK3 := Lib.hid hok3
        clear hok3 hgood hd0 hd7
        have hpw := fun W => rPutWord_ok c1 b1 n1 lo1 wa1 re1 W e1 e2 e3
        have hst := fun W h => State_any (Fm.mk cr' h' ⟨c1, lo1, wa1, re1, b1, n1⟩) g W hh0 h
        have hwd := fun W h => Word_any cr' h' c1 b1 n1 lo1 wa1 re1 g W hh0 e1 e2 e3 h
        simp only [Wd.val] at hpw hst
        obtain ⟨N, hN⟩ : ∃ N, N = wordN c1 b1 n1 lo1 wa1 re1 := ⟨_, rfl⟩
        rw [← hN] at hpw hwd
        have HPW := Lib.hid hpw; have HST := Lib.hid hst; have HWD := Lib.hid hwd
        clear hpw hst hwd hN
        have x0 := HX.out.cell 0
        have x1 := HX.out.cell 1
        have x2 := HX.out.cell 2
        have x3 := HX.out.cell 3
        have x4 := HX.out.cell 4
        have x5 := HX.out.cell 5
        have x6 := HX.out.cell 6
        have x7 := HX.out.cell 7
        simp only [List.getElem?_cons_zero, List.getElem?_cons_succ] at x0 x1 x2 x3 x4 x5 x6 x7
        go_wp2_with fail
        refine (HC1.out _ HF.out).mono ?_
        rintro e v3 ⟨rfl, hK, hB⟩
        clear x0 x1 x2 x3 x4 x5 x6 x7
        replace HL := Lib.hid (HL.out.trans (hK.toBelowAt HL.out.size (by simp; omega)))
        replace HF := Lib.hid (hB)
        replace HQ := Lib.hid (HQ.out.keep hK (by simp; omega))
        replace HX := Lib.hid (HX.out.keep hK (by simp; omega))
        clear hK hB
        have x0 := HX.out.cell 0
        have x1 := HX.out.cell 1
        have x2 := HX.out.cell 2
        have x3 := HX.out.cell 3
        have x4 := HX.out.cell 4
        have x5 := HX.out.cell 5
        have x6 := HX.out.cell 6
        have x7 := HX.out.cell 7
        simp only [List.getElem?_cons_zero, List.getElem?_cons_succ] at x0 x1 x2 x3 x4 x5 x6 x7
        go_wp2_with fail
        refine (HC2.out _ HQ.out).mono ?_
        rintro e v4 ⟨rfl, hK, hB⟩
        clear x0 x1 x2 x3 x4 x5 x6 x7
        replace HL := Lib.hid (HL.out.trans (hK.toBelowAt HL.out.size (by simp; omega)))
        replace HF := Lib.hid (HF.out.keep hK (by simp; omega))
        replace HQ := Lib.hid (hB)
        replace HX := Lib.hid (HX.out.keep hK (by simp; omega))
        clear hK hB
        have x0 := HX.out.cell 0
        have x1 := HX.out.cell 1
        have x2 := HX.out.cell 2
        have x3 := HX.out.cell 3
        have x4 := HX.out.cell 4
        have x5 := HX.out.cell 5
        have x6 := HX.out.cell 6
        have x7 := HX.out.cell 7
        simp only [List.getElem?_cons_zero, List.getElem?_cons_succ] at x0 x1 x2 x3 x4 x5 x6 x7
        clear x0 x1 x2 x3 x4 x5 x6 x7
        have c0 := HQ.out.cell 0
        have c1 := HQ.out.cell 1
        have c2 := HQ.out.cell 2
        have c3 := HQ.out.cell 3
        have c4 := HQ.out.cell 4
        have c5 := HQ.out.cell 5
        have c6 := HQ.out.cell 6
        have c7 := HQ.out.cell 7
        simp only [Fm.cells, Fm.dbl, List.getElem?_cons_zero, List.getElem?_cons_succ] at c0 c1 c2 c3 c4 c5 c6 c7
        go_wp2_with fail
        refine (HPW.out _).mono ?_
        rintro e v5 ⟨rfl, hL⟩
        clear c0 c1 c2 c3 c4 c5 c6 c7
        replace HL := Lib.hid (HL.out.trans (hL.mono HL.out.size))
        replace HF := Lib.hid (HF.out.below hL HF.out.lt)
        replace HQ := Lib.hid (HQ.out.below hL HQ.out.lt)
        clear hL HX
        go_wp2_with fail
        have c0 := cl_blk HQ.out 0
        have c1_ := cl_blk HQ.out 1
        have c2 := cl_blk HQ.out 2
        have c3 := cl_blk HQ.out 3
        have c4 := cl_blk HQ.out 4
        have c5 := cl_blk HQ.out 5
        have c6 := cl_blk HQ.out 6
        have c7 := cl_blk HQ.out 7
        simp only [Fm.cells, Fm.dbl, List.getElem?_cons_zero, List.getElem?_cons_succ] at c0 c1_ c2 c3 c4 c5 c6 c7
        have HB' := Lib.hid (fun (y : Cl v5.heap.size v5) => HF.out.below y.below HF.out.lt)
        refine region_calm v5.heap.size (by kernel_rfl) (by kernel_rfl) ?_
        repeat (go_big_quiet_step ((first | (go_at_call 18; exact cl_call _ (Nat.le_refl _) (HST.out _ (HB'.out _))) | (go_at_call 42; exact cl_call _ (Nat.le_refl _) (HWD.out _ (HB'.out _))))))
        refine wpQuiet_nil ?_
        intro v6 hL
        replace HL := Lib.hid (HL.out.trans (hL.mono HL.out.size))
        replace HF := Lib.hid (HF.out.below hL HF.out.lt)
        replace HQ := Lib.hid (HQ.out.below hL HQ.out.lt)
        clear hL c0 c1_ c2 c3 c4 c5 c6 c7 HB'
        go_wp2_with fail
        go_roundg (n - (k + 1))
        case rel => exact ⟨k + 1, by omega, rfl, by go_num, HL.out, _, HK3.out, by simp, by simp only; omega, HF.out, HQ.out⟩
        case measure => omega
end Go.Proofs.Ytebgehmgjafblaa
