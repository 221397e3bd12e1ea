/- What is proved here: the walk of the law about Get. -/
import Derived.Test.YtkpgenmlpkfokaaN30
import Derived.Test.YtkpgenmlpkfokaaN31
set_option linter.unusedVariables false
set_option linter.unusedSimpArgs false
namespace Go.Proofs.Ytkpgenmlpkfokaa
open Go.RowKit
set_option maxHeartbeats 4000000 in
set_option maxRecDepth 100000 in
theorem UnitsGets_any (b : ByteArray) (w : World) : Calls Try.prog 4 #[.string b] w fun e w' => e = .returned (.bool true) ∧ Below w.heap.size w w' := by
  by_cases h0 : 3000 < b.size
  · have k0 : (3000 : Int) < b.size := by omega
    go_enter Try.func4, Try.ntmps4
    go_wp2_with fail
    refine (shown37_any _).mono ?_
    rintro e w1 ⟨rfl, hL1⟩
    have HL1 := Lib.hid hL1; clear hL1
    go_wp2_with fail
    go_ret
    exact ⟨rfl, HL1.out⟩
  · have k0 : ¬ (3000 : Int) < b.size := by omega
    have hU := fun W => uGet_any b W
    have hV := fun W => vGet_any b W
    unfold GetPost at hU
    unfold VPost at hV
    rw [← getS_eq] at hV
    have hf := (getS_fine b).2.2
    obtain ⟨u, er, hge⟩ : ∃ u er, getS b = (u, er) := ⟨_, _, rfl⟩
    rw [hge] at hU hV hf
    have hS := fun gv gw W hG hM => vSame_any u u gv gw W (by simp only at hf; omega) (by simp only at hf; omega) hG hM
    rw [(sameU_iff u u).2 rfl] at hS
    obtain ⟨ki, nu, nm, sz, su, of, da, wy, an, me, gs⟩ := u
    simp only [Un.val] at hU hV hS
    have HU := Lib.hid hU; have HV := Lib.hid hV; have HS := Lib.hid hS
    clear hU hV hS hf hge h0
    go_enter Try.func4, Try.ntmps4
    go_wp2_with fail
    refine (shown37_any _).mono ?_
    rintro e w1 ⟨rfl, hL1⟩
    have HL1 := Lib.hid hL1; clear hL1
    go_wp2_with fail
    refine (HU.out _).mono ?_
    rintro e w2 ⟨gv, rfl, hG2, hL2⟩
    obtain ⟨ga, gc, hgv, -⟩ := id hG2
    subst hgv
    have HG2 := Lib.hid hG2
    have HL2 := Lib.hid (HL1.out.trans (hL2.mono HL1.out.size)); clear hG2 hL2 HL1
    obtain ⟨h1, hh1⟩ : ∃ h, h = w2.heap.size := ⟨_, rfl⟩
    go_upto_region 6 with fail
    rw [← hh1]
    refine gen_world (fun w' => Blk w' h1 [.int .i64 ki, .int .i64 nu, .string nm, .int .i64 sz, .int .u32 su, .int .i64 of, .string da, .int .i64 wy, .int .i64 an, .bool me, .slice ga gs.length gc] 25 ∧ GapsAt w' (.slice ga gs.length gc) gs ∧ Below w.heap.size w w') ⟨by rw [hh1]; exact Blk.new w2 _ _, HG2.out.below ((Below.refl _ w2).alloc (Nat.le_refl _) _) (Nat.le_refl _), HL2.out.alloc HL2.out.size _⟩ ?_
    rintro w3 ⟨hB3, hG3, hL3⟩
    have HB3 := Lib.hid hB3; have HG3 := Lib.hid hG3; have HL3 := Lib.hid hL3
    clear hB3 hG3 hL3 HG2 HL2 hh1
    go_wp2_with fail
    refine (HV.out _).mono ?_
    rintro e w4 ⟨gw, rfl, hM4, hL4⟩
    obtain ⟨gb, gd, hgw, -⟩ := id hM4
    subst hgw
    have HB4 := Lib.hid (HB3.out.below hL4 HB3.out.lt)
    have HG4 := Lib.hid (HG3.out.below hL4 (Nat.le_refl _))
    have HM4 := Lib.hid hM4
    have HL4 := Lib.hid (HL3.out.trans (hL4.mono HL3.out.size)); clear hM4 hL4 HL3 HG3 HB3
    obtain ⟨h2, hh2⟩ : ∃ h, h = w4.heap.size := ⟨_, rfl⟩
    go_upto_region 7 with fail
    rw [← hh2]
    refine gen_world (fun w' => Blk w' h1 [.int .i64 ki, .int .i64 nu, .string nm, .int .i64 sz, .int .u32 su, .int .i64 of, .string da, .int .i64 wy, .int .i64 an, .bool me, .slice ga gs.length gc] 25 ∧ Blk w' h2 [.int .i64 ki, .int .i64 nu, .string nm, .int .i64 sz, .int .u32 su, .int .i64 of, .string da, .int .i64 wy, .int .i64 an, .bool me, .slice gb gs.length gd] 25 ∧ GapsAt w' (.slice ga gs.length gc) gs ∧ GapsAt w' (.slice gb gs.length gd) gs ∧ Below w.heap.size w w') ⟨HB4.out.alloc _, by rw [hh2]; exact Blk.new w4 _ _, HG4.out.below ((Below.refl _ w4).alloc (Nat.le_refl _) _) (Nat.le_refl _), HM4.out.below ((Below.refl _ w4).alloc (Nat.le_refl _) _) (Nat.le_refl _), HL4.out.alloc HL4.out.size _⟩ ?_
    rintro w5 ⟨hB5, hC5, hG5, hM5, hL5⟩
    have HB5 := Lib.hid hB5; have HC5 := Lib.hid hC5; have HG5 := Lib.hid hG5; have HM5 := Lib.hid hM5; have HL5 := Lib.hid hL5
    clear hB5 hC5 hG5 hM5 hL5 HB4 HG4 HM4 HL4 hh2
    have x0 := HB5.out.cell 0
    have x1 := HB5.out.cell 1
    have x2 := HB5.out.cell 2
    have x3 := HB5.out.cell 3
    have x4 := HB5.out.cell 4
    have x5 := HB5.out.cell 5
    have x6 := HB5.out.cell 6
    have x7 := HB5.out.cell 7
    have x8 := HB5.out.cell 8
    have x9 := HB5.out.cell 9
    have x10 := HB5.out.cell 10
    simp only [List.getElem?_cons_zero, List.getElem?_cons_succ] at x0 x1 x2 x3 x4 x5 x6 x7 x8 x9 x10
    have y0 := HC5.out.cell 0
    have y1 := HC5.out.cell 1
    have y2 := HC5.out.cell 2
    have y3 := HC5.out.cell 3
    have y4 := HC5.out.cell 4
    have y5 := HC5.out.cell 5
    have y6 := HC5.out.cell 6
    have y7 := HC5.out.cell 7
    have y8 := HC5.out.cell 8
    have y9 := HC5.out.cell 9
    have y10 := HC5.out.cell 10
    simp only [List.getElem?_cons_zero, List.getElem?_cons_succ] at y0 y1 y2 y3 y4 y5 y6 y7 y8 y9 y10
    go_wp2_with fail
    refine (HS.out (.slice ga gs.length gc) (.slice gb gs.length gd) _ HG5.out HM5.out).mono ?_
    rintro e w6 ⟨rfl, hL6⟩
    have HL6 := Lib.hid (HL5.out.trans (hL6.mono HL5.out.size)); clear hL6
    go_wp2_with fail
    go_ret
    exact ⟨rfl, HL6.out⟩
end Go.Proofs.Ytkpgenmlpkfokaa
