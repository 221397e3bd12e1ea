/- What is proved here: the walk of the reference's comparison of units. -/
import Derived.Test.YtkpgenmlpkfokaaN4
set_option linter.unusedVariables false
set_option linter.unusedSimpArgs false
namespace Go.Proofs.Ytkpgenmlpkfokaa
open Go.RowKit
set_option maxHeartbeats 8000000 in
set_option maxRecDepth 100000 in
theorem vSame_any (a b : Un) (u v : Value) (w : World) (hl : a.gaps.length ≤ 1000000) (hm : b.gaps.length ≤ 1000000) (hG : GapsAt w u a.gaps) (hM : GapsAt w v b.gaps) :
    Calls Try.prog 19 #[a.val u, b.val v] w fun e w' => e = .returned (.bool (sameU a b)) ∧ Below w.heap.size w w' := by
  have HL := Lib.hid (((Below.refl w.heap.size w).alloc (Nat.le_refl _) (Obj.cells (a.cells u).toArray 25)).alloc (by simp) (Obj.cells (b.cells v).toArray 25))
  have HA := Lib.hid ((Blk.new w (a.cells u) 25).alloc (Obj.cells (b.cells v).toArray 25))
  have HB := Lib.hid (Blk.new_at (w.alloc (Obj.cells (a.cells u).toArray 25)) (b.cells v) 25 (w.heap.size + 1) (by simp))
  have HR := Lib.hid (show sameU a b = (decide (a.gaps = b.gaps) && (a.kind == b.kind) && (a.num == b.num) && (a.name.toList == b.name.toList) && (a.size == b.size) && (a.sum == b.sum) && (a.off == b.off) && (a.data.toList == b.data.toList) && (a.why == b.why) && (a.ans == b.ans) && (a.meta_ == b.meta_)) from rfl)
  obtain ⟨k1, n1, m1, s1, c1, o1, d1, w1, a1, t1, g1⟩ := a
  obtain ⟨k2, n2, m2, s2, c2, o2, d2, w2, a2, t2, g2⟩ := b
  simp only [Un.cells, Un.val] at HL HA HB HR hG hM hl hm ⊢
  obtain ⟨r, hr⟩ : ∃ r : Bool, r = sameU ⟨k1, n1, m1, s1, c1, o1, d1, w1, a1, t1, g1⟩ ⟨k2, n2, m2, s2, c2, o2, d2, w2, a2, t2, g2⟩ := ⟨_, rfl⟩
  rw [← hr] at HR
  rw [← hr]
  clear hr
  obtain ⟨ga, gc, rfl, hG⟩ := hG
  obtain ⟨ha, hc, rfl, hM⟩ := hM
  have HG := Lib.hid hG
  have HM := Lib.hid hM
  have HNQ := Lib.hid neqGap
  have hgd := guardGap
  clear hG hM
  have x0 := HA.out.cell 0
  have x1 := HA.out.cell 1
  have x2 := HA.out.cell 2
  have x3 := HA.out.cell 3
  have x4 := HA.out.cell 4
  have x5 := HA.out.cell 5
  have x6 := HA.out.cell 6
  have x7 := HA.out.cell 7
  have x8 := HA.out.cell 8
  have x9 := HA.out.cell 9
  have x10 := HA.out.cell 10
  simp only [List.getElem?_cons_zero, List.getElem?_cons_succ] at x0 x1 x2 x3 x4 x5 x6 x7 x8 x9 x10
  have y0 := HB.out.cell 0
  have y1 := HB.out.cell 1
  have y2 := HB.out.cell 2
  have y3 := HB.out.cell 3
  have y4 := HB.out.cell 4
  have y5 := HB.out.cell 5
  have y6 := HB.out.cell 6
  have y7 := HB.out.cell 7
  have y8 := HB.out.cell 8
  have y9 := HB.out.cell 9
  have y10 := HB.out.cell 10
  simp only [List.getElem?_cons_zero, List.getElem?_cons_succ] at y0 y1 y2 y3 y4 y5 y6 y7 y8 y9 y10
  by_cases hlm : g1.length = g2.length
  case neg =>
    have e0 : ((g1.length : Int) != (g2.length : Int)) = true := by rw [bne_iff_ne]; omega
    have HF := Lib.hid (show r = false by rw [HR.out, decide_eq_false (fun e => hlm (by rw [e]))]; rfl)
    clear hlm
    go_enter Try.func19, Try.ntmps19
    go_wp2_with fail
    go_ret
    exact ⟨by rw [HF.out]; rfl, HL.out⟩
  have e0 : ((g1.length : Int) != (g2.length : Int)) = false := by rw [hlm]; simp
  have hle : g1.length ≤ g2.length := by omega
  have HLM := Lib.hid hlm
  clear hlm
  go_enter Try.func19, Try.ntmps19
  go_wp2_with fail
  clear x0 x1 x2 x3 x4 x5 x6 x7 x8 x9 x10 y0 y1 y2 y3 y4 y5 y6 y7 y8 y9 y10
  go_loopw [5] (fun iv wr => ∃ k : Nat, k ≤ g1.length ∧ iv = .int .i64 k ∧ Hid (g1.take k = g2.take k) ∧ Below w.heap.size w wr ∧ Blk wr w.heap.size [.int .i64 k1, .int .i64 n1, .string m1, .int .i64 s1, .int .u32 c1, .int .i64 o1, .string d1, .int .i64 w1, .int .i64 a1, .bool t1, .slice ga g1.length gc] 25 ∧ Blk wr (w.heap.size + 1) [.int .i64 k2, .int .i64 n2, .string m2, .int .i64 s2, .int .u32 c2, .int .i64 o2, .string d2, .int .i64 w2, .int .i64 a2, .bool t2, .slice ha g2.length hc] 25) (fun iv _ => g1.length - (intOf iv).toNat)
  case atStart => exact ⟨0, by omega, rfl, Lib.hid rfl, HL.out, HA.out, HB.out⟩
  case round =>
    clear HL HA HB
    obtain ⟨k, hk, rfl, hT, hL, hA, hB⟩ := hrel
    have HL := Lib.hid hL; have HA := Lib.hid hA; have HB := Lib.hid hB; clear hL hA hB
    by_cases hlt : k < g1.length
    · obtain ⟨b, off, rfl, hb, z0, z1⟩ := HG.out k hlt
      have hltm : k < g2.length := by omega
      obtain ⟨b', off', rfl, hb', z2, z3⟩ := HM.out k hltm
      have q0 := (HL.out.cell (p := ⟨b, off + k * 2, none⟩) hb).trans z0
      have q1 := (HL.out.cell (p := ⟨b, off + k * 2 + 1, none⟩) hb).trans z1
      have q2 := (HL.out.cell (p := ⟨b', off' + k * 2, none⟩) hb').trans z2
      have q3 := (HL.out.cell (p := ⟨b', off' + k * 2 + 1, none⟩) hb').trans z3
      have hnq := fun W => HNQ.out (g1[k]).1 (g1[k]).2 (g2[k]).1 (g2[k]).2 W
      have HST := Lib.hid (fun e : g1[k] = g2[k] => take_eq_step g1 g2 k hlt hltm hT.out e)
      obtain ⟨g, hg⟩ : ∃ g, g = g1[k] := ⟨_, rfl⟩
      obtain ⟨f, hf⟩ : ∃ f, f = g2[k] := ⟨_, rfl⟩
      rw [← hg] at q0 q1 hnq HST
      rw [← hf] at q2 q3 hnq HST
      have Hg := Lib.hid hg; have Hf := Lib.hid hf
      obtain ⟨x, y⟩ := g
      obtain ⟨p, q⟩ := f
      simp only at q0 q1 q2 q3 hnq
      have hkl : (k : Int) < (g1.length : Int) := by omega
      have hkm : (k : Int) < (g2.length : Int) := by omega
      have hk0 : (0 : Int) ≤ (k : Int) := by omega
      have x10 := HA.out.cell 10
      have y10 := HB.out.cell 10
      simp only [List.getElem?_cons_zero, List.getElem?_cons_succ] at x10 y10
      clear z0 z1 z2 z3 hg hf
      by_cases he : (x, y) = (p, q)
      · have e0 : (!((x, y) == (p, q))) = false := by simp [he]
        rw [e0] at hnq
        have HE := Lib.hid he
        clear he e0
        go_upto_region 6 with fail
        go_quiet (fail)
        go_wp2_with fail
        go_roundw
        case rel => exact ⟨k + 1, by omega, by go_num, Lib.hid (HST.out HE.out), HL.out.trans ((below_quiet _ _).1.mono HL.out.size), HA.out.drewN _, HB.out.drewN _⟩
        case measure => simp [intOf]; omega
      · have e0 : (!((x, y) == (p, q))) = true := by simpa using he
        rw [e0] at hnq
        have HF := Lib.hid (show r = false by rw [HR.out, decide_eq_false (fun e => he (by rw [Hg.out, Hf.out]; subst e; rfl))]; rfl)
        clear he e0
        go_upto_region 6 with fail
        go_quiet (fail)
        go_wp2_with fail
        go_ret
        exact ⟨by rw [HF.out]; rfl, HL.out.trans ((below_quiet _ _).1.mono HL.out.size)⟩
    · obtain rfl : k = g1.length := by omega
      have hgg : g1 = g2 := by have := hT.out; rwa [List.take_length, HLM.out, List.take_length] at this
      have HR2 := HR.out
      rw [decide_eq_true hgg, Bool.true_and] at HR2
      have HR2 := Lib.hid HR2
      clear hgg HG HM hT HLM
      have x0 := HA.out.cell 0
      have x1 := HA.out.cell 1
      have x2 := HA.out.cell 2
      have x3 := HA.out.cell 3
      have x4 := HA.out.cell 4
      have x5 := HA.out.cell 5
      have x6 := HA.out.cell 6
      have x7 := HA.out.cell 7
      have x8 := HA.out.cell 8
      have x9 := HA.out.cell 9
      have x10 := HA.out.cell 10
      simp only [List.getElem?_cons_zero, List.getElem?_cons_succ] at x0 x1 x2 x3 x4 x5 x6 x7 x8 x9 x10
      have y0 := HB.out.cell 0
      have y1 := HB.out.cell 1
      have y2 := HB.out.cell 2
      have y3 := HB.out.cell 3
      have y4 := HB.out.cell 4
      have y5 := HB.out.cell 5
      have y6 := HB.out.cell 6
      have y7 := HB.out.cell 7
      have y8 := HB.out.cell 8
      have y9 := HB.out.cell 9
      have y10 := HB.out.cell 10
      simp only [List.getElem?_cons_zero, List.getElem?_cons_succ] at y0 y1 y2 y3 y4 y5 y6 y7 y8 y9 y10
      go_wp2_with fail
      all_goals
        go_ret
        refine ⟨?_, HL.out⟩
        refine (congrArg (fun z => Ending.returned (Value.bool z)) (Eq.trans ?_ HR2.out.symm) : _)
        simp [*]
end Go.Proofs.Ytkpgenmlpkfokaa
