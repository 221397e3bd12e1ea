/- What is proved here: units among the arguments, opened; the test of their size; the walk of the law about Get and Put. -/
import Derived.Test.YtkpgenmlpkfokaaN9
import Derived.Test.YtkpgenmlpkfokaaOpen
import Derived.OpenShut
import Derived.Deep.Slices
import Derived.Deep.SlicePairs
import Derived.Deep.Strs
import Derived.Test.YtkpgenmlpkfokaaN30
import Derived.Test.YtkpgenmlpkfokaaN31
set_option linter.unusedVariables false
set_option linter.unusedSimpArgs false
namespace Go.Proofs.Ytkpgenmlpkfokaa
open Go.RowKit
section
open Go.ChangeShapes Go.WideShapes Go.ChangeAt Go.Deep
section
variable {H : Type} {enc : TypeId × Value → H} {w : World} {base : Nat} {spare : Nat → Bool} {held : Bool}
theorem u32_range {n : Int} (h : (Lit.int .u32 n).wf = true) : 0 ≤ n ∧ n ≤ 4294967295 := by
  simp [Lit.wf, IntKind.min, IntKind.max, IntKind.signed, IntKind.bits] at h
  omega
set_option maxRecDepth 100000 in
theorem gaps_open {fuel : Nat} {cs : List Value} {x : DataW H × List MemPlace} (h : DataW.trod enc Try.prog w base spare held fuel 23 cs = some x) :
    ∃ v l, cs = [v] ∧ GapsAt w v l ∧ l.length ≤ 9223372036854775807 ∧ ∀ i (h : i < l.length), -9223372036854775808 ≤ (l[i]).1 ∧ (l[i]).1 ≤ 9223372036854775807 ∧ -9223372036854775808 ≤ (l[i]).2 ∧ (l[i]).2 ≤ 9223372036854775807 := by
  rcases open_slice_pairs Try.underlying23 Try.underlying47 (by kernel_rfl) rfl rfl (by kernel_rfl) (by kernel_rfl) h with ⟨hcs, hx⟩ | ⟨a, len, cap, m, n, V0, V1, D0, D1, P0, P1, hcs, hb, hl, hm, hmm, hx, hel⟩
  · exact ⟨_, [], hcs, GapsAt.nil w, by simp, fun i hi => by simp at hi⟩
  · have hlm : len ≤ m := by rw [hmm]; split <;> omega
    have each : ∀ i, i < len → ∃ g : Gp, w.cell? (a.add (i * 2)) = some (.int .i64 g.1) ∧ w.cell? (a.add (i * 2 + 1)) = some (.int .i64 g.2) ∧ -9223372036854775808 ≤ g.1 ∧ g.1 ≤ 9223372036854775807 ∧ -9223372036854775808 ≤ g.2 ∧ g.2 ≤ 9223372036854775807 := fun i hi => by
      obtain ⟨h1, h2, t1, t2⟩ := hel i (by omega)
      obtain ⟨a0, c0, _, w0⟩ := DataW.trod_int Try.underlying3 t1
      obtain ⟨a1, c1, _, w1⟩ := DataW.trod_int Try.underlying3 t2
      injection c0 with c0; injection c1 with c1
      have r0 := bounds_i64 w0
      have r1 := bounds_i64 w1
      exact ⟨(a0, a1), by rw [h1, c0], by rw [h2, c1], r0.1, r0.2, r1.1, r1.2⟩
    obtain ⟨S, hS⟩ := choose_lt (α := Gp) each
    obtain ⟨b, off, spot⟩ := a
    have hspot : 0 < len → spot = none := fun h0 => by
      have c0 := (hS 0 h0).1
      have := World.cell?_spot c0
      simpa [Addr.add] using this
    have hll : ((List.range len).map S).length = len := by simp
    refine ⟨_, (List.range len).map S, hcs, ⟨some ⟨b, off, spot⟩, cap, by rw [hll], fun i hi => ?_⟩, ?_, fun i hi => ?_⟩
    · rw [hll] at hi
      obtain ⟨c1, c2, -⟩ := hS i hi
      obtain rfl := hspot (by omega)
      have e1 : (⟨b, off, none⟩ : Addr).add (i * 2) = ⟨b, off + i * 2, none⟩ := by unfold Addr.add; split <;> simp_all
      have e2 : (⟨b, off, none⟩ : Addr).add (i * 2 + 1) = ⟨b, off + i * 2 + 1, none⟩ := by unfold Addr.add; split <;> simp_all <;> omega
      rw [e1] at c1
      rw [e2] at c2
      refine ⟨b, off, rfl, World.block_lt_of_cell? _ _ c1, ?_, ?_⟩
      · simpa using c1
      · simpa using c2
    · rw [hll]
      have : cap ≤ 9223372036854775807 := hm
      omega
    · have hi' : i < len := by rw [hll] at hi; exact hi
      obtain ⟨-, -, h3⟩ := hS i hi'
      simpa using h3
set_option maxRecDepth 100000 in
theorem unit_open {fuel : Nat} {cs : List Value} {x : DataW H × List MemPlace} (h : DataW.trod enc Try.prog w base spare held fuel 25 cs = some x) : ∃ (u : Un) (gv : Value), cs = u.cells gv ∧ GapsAt w gv u.gaps ∧ intsU u ∧ u.name.size ≤ 9223372036854775807 ∧ u.data.size ≤ 9223372036854775807 ∧ u.gaps.length ≤ 9223372036854775807 := by
  obtain ⟨hl, hf⟩ := trod_cells Try.underlying25 (by kernel_rfl) (by kernel_rfl) h
  obtain ⟨v0, y0, n0, e0, t0⟩ := hf 0 _ rfl
  obtain ⟨v1, y1, n1, e1, t1⟩ := hf 1 _ rfl
  obtain ⟨v2, y2, n2, e2, t2⟩ := hf 2 _ rfl
  obtain ⟨v3, y3, n3, e3, t3⟩ := hf 3 _ rfl
  obtain ⟨v4, y4, n4, e4, t4⟩ := hf 4 _ rfl
  obtain ⟨v5, y5, n5, e5, t5⟩ := hf 5 _ rfl
  obtain ⟨v6, y6, n6, e6, t6⟩ := hf 6 _ rfl
  obtain ⟨v7, y7, n7, e7, t7⟩ := hf 7 _ rfl
  obtain ⟨v8, y8, n8, e8, t8⟩ := hf 8 _ rfl
  obtain ⟨v9, y9, n9, e9, t9⟩ := hf 9 _ rfl
  obtain ⟨v10, y10, n10, e10, t10⟩ := hf 10 _ rfl
  obtain ⟨a0, c0, _, w0⟩ := DataW.trod_int Try.underlying3 t0
  obtain ⟨a1, c1, _, w1⟩ := DataW.trod_int Try.underlying3 t1
  obtain ⟨a2, c2, _, w2⟩ := DataW.trod_string Try.underlying9 t2
  obtain ⟨a3, c3, _, w3⟩ := DataW.trod_int Try.underlying3 t3
  obtain ⟨a4, c4, _, w4⟩ := DataW.trod_int Try.underlying22 t4
  obtain ⟨a5, c5, _, w5⟩ := DataW.trod_int Try.underlying3 t5
  obtain ⟨a6, c6, _, w6⟩ := DataW.trod_string Try.underlying9 t6
  obtain ⟨a7, c7, _, w7⟩ := DataW.trod_int Try.underlying3 t7
  obtain ⟨a8, c8, _, w8⟩ := DataW.trod_int Try.underlying3 t8
  obtain ⟨a9, c9, _⟩ := DataW.trod_bool Try.underlying4 t9
  obtain ⟨a10, l, c10, hG, hgl, hgr⟩ := gaps_open t10
  injection c0 with c0; injection c1 with c1; injection c2 with c2; injection c3 with c3; injection c4 with c4; injection c5 with c5; injection c6 with c6; injection c7 with c7; injection c8 with c8; injection c9 with c9; injection c10 with c10
  subst c0 c1 c2 c3 c4 c5 c6 c7 c8 c9 c10
  have r0 := bounds_i64 w0
  have r1 := bounds_i64 w1
  have r3 := bounds_i64 w3
  have r4 := u32_range w4
  have r5 := bounds_i64 w5
  have r7 := bounds_i64 w7
  have r8 := bounds_i64 w8
  refine ⟨⟨a0, a1, a2, a3, a4, a5, a6, a7, a8, a9, l⟩, v10, ?_, hG, ⟨r0.1, r0.2, r1.1, r1.2, r3.1, r3.2, r4.1, r4.2, r5.1, r5.2, r7.1, r7.2, r8.1, r8.2, hgr⟩, w2, w6, hgl⟩
  match cs, hl with
  | [d0, d1, d2, d3, d4, d5, d6, d7, d8, d9, d10], _ =>
    simp only [List.getElem?_cons_zero, List.getElem?_cons_succ, Option.some.injEq] at e0 e1 e2 e3 e4 e5 e6 e7 e8 e9 e10
    rw [e0, e1, e2, e3, e4, e5, e6, e7, e8, e9, e10]; rfl
set_option maxRecDepth 100000 in
theorem open_unit {r : Reach} {b0 : Nat} {v : Value} {d : DataW H} {p : List MemPlace} (hv : Value.okWide Try.prog w r b0 25 v) (h : DataW.Trod enc Try.prog w base spare held 25 v d p) : ∃ (u : Un) (gv : Value), v = u.val gv ∧ GapsAt w gv u.gaps ∧ intsU u ∧ u.name.size ≤ 9223372036854775807 ∧ u.data.size ≤ 9223372036854775807 ∧ u.gaps.length ≤ 9223372036854775807 := by
  obtain ⟨cs, rfl, hsz⟩ := okWide_struct Try.underlying25 hv
  obtain ⟨fuel, hf⟩ := h
  obtain ⟨u, gv, hc, hw⟩ := unit_open hf
  refine ⟨u, gv, ?_, hw⟩
  obtain ⟨l⟩ := cs
  have : l = u.cells gv := hc
  rw [this]; rfl
end
end
set_option maxHeartbeats 4000000 in
set_option maxRecDepth 100000 in
theorem great_any (u : Un) (gv : Value) (w : World) (hl : u.gaps.length ≤ 9223372036854775807) (hG : GapsAt w gv u.gaps) : Calls Try.prog 10 #[u.val gv] w fun e w' => ∃ b : Bool, e = .returned (.bool b) ∧ (b = false → u.gaps.length ≤ 200) ∧ Below w.heap.size w w' := by
  have HA := Lib.hid (Blk.new w (u.cells gv) 25)
  have HL := Lib.hid ((Below.refl w.heap.size w).alloc (Nat.le_refl _) (Obj.cells (u.cells gv).toArray 25))
  obtain ⟨ki, nu, nm, sz, su, of, da, wy, an, me, gs⟩ := u
  simp only [Un.cells, Un.val] at HA HL hl hG ⊢
  obtain ⟨ga, gc, rfl, -⟩ := hG
  have x0 := HA.out.cell 0
  have x1 := HA.out.cell 1
  have x2 := HA.out.cell 2
  have x3 := HA.out.cell 3
  have x4 := HA.out.cell 4
  have x5 := HA.out.cell 5
  have x6 := HA.out.cell 6
  have x7 := HA.out.cell 7
  have x8 := HA.out.cell 8
  have x9 := HA.out.cell 9
  have x10 := HA.out.cell 10
  simp only [List.getElem?_cons_zero, List.getElem?_cons_succ] at x0 x1 x2 x3 x4 x5 x6 x7 x8 x9 x10
  cases h1 : decide ((3000 : Int) < wrap64 ((nm.size : Int) + (da.size : Int))) with
  | true =>
    go_enter Try.func10, Try.ntmps10
    go_wp2_with fail
    go_ret
    exact ⟨_, rfl, fun h => (by cases h), HL.out⟩
  | false =>
    cases h2 : decide ((200 : Int) < (gs.length : Int)) with
    | true =>
      go_enter Try.func10, Try.ntmps10
      go_wp2_with fail
      go_ret
      exact ⟨_, rfl, fun h => (by cases h), HL.out⟩
    | false =>
      have h3 : gs.length ≤ 200 := by have := of_decide_eq_false h2; omega
      go_enter Try.func10, Try.ntmps10
      go_wp2_with fail
      go_ret
      exact ⟨_, rfl, fun _ => h3, HL.out⟩
theorem uPut_wide (u : Un) (gv : Value) (w : World) (hn : u.name.size ≤ 9223372036854775807) (hd : u.data.size ≤ 9223372036854775807) (hg : u.gaps.length ≤ 1000) (hi : intsU u) (hG : GapsAt w gv u.gaps) :
    Calls Try.prog 12 #[u.val gv] w fun e w' => e = .returned (.tuple #[strOf (putS u).1, .int .i64 (putS u).2]) ∧ Below w.heap.size w w' := by
  cases hv : validS u with
  | false => exact (uPut_out u gv w ⟨hn, hd, by omega⟩ hv hG).mono fun e w' h => ⟨by rw [h.1, putS, if_neg (by rw [hv]; exact Bool.false_ne_true)]; rfl, h.2⟩
  | true =>
    have h := valid_fine u hv
    exact uPut_any u gv w (by omega) (by omega) hg hi hG
set_option maxHeartbeats 8000000 in
set_option maxRecDepth 100000 in
theorem UnitsBack_any (u : Un) (gv : Value) (b : ByteArray) (w : World) (hG : GapsAt w gv u.gaps) (hi : intsU u) (hn : u.name.size ≤ 9223372036854775807) (hd : u.data.size ≤ 9223372036854775807) (hl : u.gaps.length ≤ 9223372036854775807) :
    Calls Try.prog 6 #[u.val gv, .string b] w fun e w' => e = .returned (.bool true) ∧ Below w.heap.size w w' := by
  obtain ⟨ga, gc, hgv, -⟩ := id hG
  have HGR := Lib.hid (fun W (h : GapsAt W gv u.gaps) => great_any u gv W hl h)
  have HPU := Lib.hid (fun W (h : GapsAt W gv u.gaps) (hg : u.gaps.length ≤ 1000) => uPut_wide u gv W hn hd hg hi h)
  have HX0 := Lib.hid (Blk.new w (u.cells gv) 25)
  have HL0 := Lib.hid ((Below.refl w.heap.size w).alloc (Nat.le_refl _) (Obj.cells (u.cells gv).toArray 25))
  have HG0 := Lib.hid (hG.below ((Below.refl w.heap.size w).alloc (Nat.le_refl _) (Obj.cells (u.cells gv).toArray 25)) (Nat.le_refl _))
  have HVL := Lib.hid (fun W (h : GapsAt W gv u.gaps) (hg : u.gaps.length ≤ 1000) => uValid_any u gv W ⟨hn, hd, by omega⟩ h)
  have HGB := Lib.hid (fun W => uGet_any b W)
  have HGC := Lib.hid (getS_cases b)
  have HPO := Lib.hid (show validS u = true → putS u = (encU u, 0) from fun h => by unfold putS; rw [if_pos h])
  have HPN := Lib.hid (show validS u = false → putS u = ([], 2) from fun h => by unfold putS; rw [if_neg (by rw [h]; exact Bool.false_ne_true)])
  have HEN := Lib.hid (show validS u = true → getS ⟨(encU u).toArray⟩ = (u, 0) from fun h => getS_enc u h ⟨by have := hi.2.2.2.2.2.2.1; omega, by have := hi.2.2.2.2.2.2.2.1; omega⟩)
  have HSM := Lib.hid (fun gv2 W (h : GapsAt W gv2 u.gaps) (h2 : GapsAt W gv u.gaps) (hg : u.gaps.length ≤ 1000) => vSame_any u u gv2 gv W (by omega) (by omega) h h2)
  rw [show sameU u u = true from (sameU_iff u u).2 rfl] at HSM
  clear hG hi hn hd hl
  obtain ⟨q, hq⟩ : ∃ q, q = validS u := ⟨_, rfl⟩
  obtain ⟨L, hL⟩ : ∃ L, L = encU u := ⟨_, rfl⟩
  obtain ⟨P, hP⟩ : ∃ P, P = putS u := ⟨_, rfl⟩
  rw [← hq] at HVL HPO HPN HEN
  rw [← hP] at HPU HPO HPN
  rw [← hL] at HPO HEN
  clear hq hL hP
  subst hgv
  obtain ⟨ki, nu, nm, sz, su, of, da, wy, an, me, gs⟩ := u
  simp only [Un.cells, Un.val] at HGR HPU HX0 HL0 HG0 HVL HEN HSM ⊢
  by_cases h0 : 3000 < b.size
  · have k0 : (3000 : Int) < b.size := by omega
    go_enter Try.func6, Try.ntmps6
    go_wp2_with fail
    refine (shown37_any _).mono ?_
    rintro e w1 ⟨rfl, hL1⟩
    have HX1 := Lib.hid (HX0.out.below hL1 HX0.out.lt)
    have HG1 := Lib.hid (HG0.out.below hL1 (Nat.le_refl _))
    have HL1 := Lib.hid (HL0.out.trans (hL1.mono HL0.out.size)); clear hL1 HL0 HX0 HG0
    have x0 := HX1.out.cell 0
    have x1 := HX1.out.cell 1
    have x2 := HX1.out.cell 2
    have x3 := HX1.out.cell 3
    have x4 := HX1.out.cell 4
    have x5 := HX1.out.cell 5
    have x6 := HX1.out.cell 6
    have x7 := HX1.out.cell 7
    have x8 := HX1.out.cell 8
    have x9 := HX1.out.cell 9
    have x10 := HX1.out.cell 10
    simp only [List.getElem?_cons_zero, List.getElem?_cons_succ] at x0 x1 x2 x3 x4 x5 x6 x7 x8 x9 x10
    go_wp2_with fail
    refine (HGR.out _ HG1.out).mono ?_
    rintro e w2 ⟨bg, rfl, hbg, hL2⟩
    have HX2 := Lib.hid (HX1.out.below hL2 HX1.out.lt)
    have HG2 := Lib.hid (HG1.out.below hL2 (Nat.le_refl _))
    have HL2 := Lib.hid (HL1.out.trans (hL2.mono HL1.out.size)); clear hL2 HL1 HX1 HG1 x0 x1 x2 x3 x4 x5 x6 x7 x8 x9 x10
    cases bg
    · go_wp2_with fail
      go_ret
      exact ⟨rfl, HL2.out⟩
    · go_wp2_with fail
      go_ret
      exact ⟨rfl, HL2.out⟩
  · have k0 : ¬ (3000 : Int) < b.size := by omega
    clear h0
    go_enter Try.func6, Try.ntmps6
    go_wp2_with fail
    refine (shown37_any _).mono ?_
    rintro e w1 ⟨rfl, hL1⟩
    have HX1 := Lib.hid (HX0.out.below hL1 HX0.out.lt)
    have HG1 := Lib.hid (HG0.out.below hL1 (Nat.le_refl _))
    have HL1 := Lib.hid (HL0.out.trans (hL1.mono HL0.out.size)); clear hL1 HL0 HX0 HG0
    have x0 := HX1.out.cell 0
    have x1 := HX1.out.cell 1
    have x2 := HX1.out.cell 2
    have x3 := HX1.out.cell 3
    have x4 := HX1.out.cell 4
    have x5 := HX1.out.cell 5
    have x6 := HX1.out.cell 6
    have x7 := HX1.out.cell 7
    have x8 := HX1.out.cell 8
    have x9 := HX1.out.cell 9
    have x10 := HX1.out.cell 10
    simp only [List.getElem?_cons_zero, List.getElem?_cons_succ] at x0 x1 x2 x3 x4 x5 x6 x7 x8 x9 x10
    go_wp2_with fail
    refine (HGR.out _ HG1.out).mono ?_
    rintro e w2 ⟨bg, rfl, hbg, hL2⟩
    have HX2 := Lib.hid (HX1.out.below hL2 HX1.out.lt)
    have HG2 := Lib.hid (HG1.out.below hL2 (Nat.le_refl _))
    have HL2 := Lib.hid (HL1.out.trans (hL2.mono HL1.out.size)); clear hL2 HL1 HX1 HG1 x0 x1 x2 x3 x4 x5 x6 x7 x8 x9 x10
    cases bg
    · have hgs := hbg rfl
      have HGS := Lib.hid (show gs.length ≤ 1000 by omega)
      clear hbg hgs
      go_wp2_with fail
      refine (HGB.out _).mono ?_
      rintro e w3 ⟨gb, rfl, hGb, hL3⟩
      have HX3 := Lib.hid (HX2.out.below hL3 HX2.out.lt)
      have HG3 := Lib.hid (HG2.out.below hL3 (Nat.le_refl _))
      have HL3 := Lib.hid (HL2.out.trans (hL3.mono HL2.out.size)); clear hL3 HL2 HX2 HG2
      rcases HGC.out with ⟨x, hx, hge⟩ | ⟨v, hge, hvv, hve, hvi⟩
      · rw [hge] at hGb ⊢
        obtain ⟨gba, gbc, hgb, -⟩ := id hGb
        subst hgb
        have hx0 : (x == 0) = false := by simp [hx]
        have HL3' := Lib.hid (HL3.out.alloc HL3.out.size (Obj.cells #[.int .i64 0, .int .i64 0, .string ⟨#[]⟩, .int .i64 0, .int .u32 0, .int .i64 0, .string ⟨#[]⟩, .int .i64 0, .int .i64 0, .bool false, .slice gba ([] : List Gp).length gbc] 25))
        have HX4 := Lib.hid (HX3.out.alloc (Obj.cells #[.int .i64 0, .int .i64 0, .string ⟨#[]⟩, .int .i64 0, .int .u32 0, .int .i64 0, .string ⟨#[]⟩, .int .i64 0, .int .i64 0, .bool false, .slice gba ([] : List Gp).length gbc] 25))
        have HG4 := Lib.hid (HG3.out.below ((Below.refl _ w3).alloc (Nat.le_refl _) (Obj.cells #[.int .i64 0, .int .i64 0, .string ⟨#[]⟩, .int .i64 0, .int .u32 0, .int .i64 0, .string ⟨#[]⟩, .int .i64 0, .int .i64 0, .bool false, .slice gba ([] : List Gp).length gbc] 25)) (Nat.le_refl _))
        clear hge hGb hx HGC HGB
        simp only [Un.val, Un.zero]
        go_upto_region 10 with fail
        refine gen_world (fun w' => Blk w' w.heap.size [.int .i64 ki, .int .i64 nu, .string nm, .int .i64 sz, .int .u32 su, .int .i64 of, .string da, .int .i64 wy, .int .i64 an, .bool me, .slice ga gs.length gc] 25 ∧ GapsAt w' (.slice ga gs.length gc) gs ∧ Below w.heap.size w w') ⟨HX4.out, HG4.out, HL3'.out⟩ ?_
        clear HX4 HG4 HL3' HX3 HG3 HL3
        rintro w6 ⟨hX6, hG6, hL6⟩
        have HX6 := Lib.hid hX6; have HG6 := Lib.hid hG6; have HL6 := Lib.hid hL6
        clear hX6 hG6 hL6
        have x0 := HX6.out.cell 0
        have x1 := HX6.out.cell 1
        have x2 := HX6.out.cell 2
        have x3 := HX6.out.cell 3
        have x4 := HX6.out.cell 4
        have x5 := HX6.out.cell 5
        have x6 := HX6.out.cell 6
        have x7 := HX6.out.cell 7
        have x8 := HX6.out.cell 8
        have x9 := HX6.out.cell 9
        have x10 := HX6.out.cell 10
        simp only [List.getElem?_cons_zero, List.getElem?_cons_succ] at x0 x1 x2 x3 x4 x5 x6 x7 x8 x9 x10
        go_wp2_with fail
        refine (HPU.out _ HG6.out HGS.out).mono ?_
        rintro e w7 ⟨rfl, hL7⟩
        have HX7 := Lib.hid (HX6.out.below hL7 HX6.out.lt)
        have HG7 := Lib.hid (HG6.out.below hL7 (Nat.le_refl _))
        have HL7 := Lib.hid (HL6.out.trans (hL7.mono HL6.out.size)); clear hL7 HL6 HX6 HG6 x0 x1 x2 x3 x4 x5 x6 x7 x8 x9 x10
        cases q
        · rw [HPN.out rfl]
          dsimp only
          simp only [strOf]
          have x0 := HX7.out.cell 0
          have x1 := HX7.out.cell 1
          have x2 := HX7.out.cell 2
          have x3 := HX7.out.cell 3
          have x4 := HX7.out.cell 4
          have x5 := HX7.out.cell 5
          have x6 := HX7.out.cell 6
          have x7 := HX7.out.cell 7
          have x8 := HX7.out.cell 8
          have x9 := HX7.out.cell 9
          have x10 := HX7.out.cell 10
          simp only [List.getElem?_cons_zero, List.getElem?_cons_succ] at x0 x1 x2 x3 x4 x5 x6 x7 x8 x9 x10
          go_wp2_with fail
          refine (HVL.out _ HG7.out HGS.out).mono ?_
          rintro e w8 ⟨rfl, hL8⟩
          have HL8 := Lib.hid (HL7.out.trans (hL8.mono HL7.out.size)); clear hL8
          go_wp2_with fail
          go_ret
          exact ⟨rfl, HL8.out⟩
        · rw [HPO.out rfl]
          dsimp only
          simp only [strOf]
          go_wp2_with fail
          refine (uGet_any ⟨L.toArray⟩ _).mono ?_
          rintro e w8 ⟨gw, rfl, hW8, hL8⟩
          rw [HEN.out (by first | exact rfl | trivial)] at hW8 ⊢
          obtain ⟨gwa, gwc, hgw, -⟩ := id hW8
          subst hgw
          simp only [Un.val] at hW8 ⊢
          have HX8 := Lib.hid (HX7.out.below hL8 HX7.out.lt)
          have HG8 := Lib.hid (HG7.out.below hL8 (Nat.le_refl _))
          have HL8 := Lib.hid (HL7.out.trans (hL8.mono HL7.out.size)); clear hL8 HL7 HX7 HG7
          have HW8 := Lib.hid hW8; clear hW8
          have HL9 := Lib.hid (HL8.out.alloc HL8.out.size (Obj.cells #[.int .i64 ki, .int .i64 nu, .string nm, .int .i64 sz, .int .u32 su, .int .i64 of, .string da, .int .i64 wy, .int .i64 an, .bool me, .slice gwa gs.length gwc] 25))
          have HX9 := Lib.hid (HX8.out.alloc (Obj.cells #[.int .i64 ki, .int .i64 nu, .string nm, .int .i64 sz, .int .u32 su, .int .i64 of, .string da, .int .i64 wy, .int .i64 an, .bool me, .slice gwa gs.length gwc] 25))
          have HG9 := Lib.hid (HG8.out.below ((Below.refl _ w8).alloc (Nat.le_refl _) (Obj.cells #[.int .i64 ki, .int .i64 nu, .string nm, .int .i64 sz, .int .u32 su, .int .i64 of, .string da, .int .i64 wy, .int .i64 an, .bool me, .slice gwa gs.length gwc] 25)) (Nat.le_refl _))
          have HW9 := Lib.hid (HW8.out.below ((Below.refl _ w8).alloc (Nat.le_refl _) (Obj.cells #[.int .i64 ki, .int .i64 nu, .string nm, .int .i64 sz, .int .u32 su, .int .i64 of, .string da, .int .i64 wy, .int .i64 an, .bool me, .slice gwa gs.length gwc] 25)) (Nat.le_refl _))
          have HB9 := Lib.hid (Blk.new w8 [.int .i64 ki, .int .i64 nu, .string nm, .int .i64 sz, .int .u32 su, .int .i64 of, .string da, .int .i64 wy, .int .i64 an, .bool me, .slice gwa gs.length gwc] 25)
          obtain ⟨h2, hh2⟩ : ∃ h, h = w8.heap.size := ⟨_, rfl⟩
          rw [← hh2] at HB9
          go_upto_region 14 with fail
          rw [← hh2]
          refine gen_world (fun w' => Blk w' w.heap.size [.int .i64 ki, .int .i64 nu, .string nm, .int .i64 sz, .int .u32 su, .int .i64 of, .string da, .int .i64 wy, .int .i64 an, .bool me, .slice ga gs.length gc] 25 ∧ Blk w' h2 [.int .i64 ki, .int .i64 nu, .string nm, .int .i64 sz, .int .u32 su, .int .i64 of, .string da, .int .i64 wy, .int .i64 an, .bool me, .slice gwa gs.length gwc] 25 ∧ GapsAt w' (.slice ga gs.length gc) gs ∧ GapsAt w' (.slice gwa gs.length gwc) gs ∧ Below w.heap.size w w') ⟨HX9.out, HB9.out, HG9.out, HW9.out, HL9.out⟩ ?_
          clear HX9 HB9 HG9 HW9 HL9 HX8 HG8 HL8 HW8 hh2
          rintro w9 ⟨hX9, hB9, hG9, hW9, hL9⟩
          have HX9 := Lib.hid hX9; have HB9 := Lib.hid hB9; have HG9 := Lib.hid hG9; have HW9 := Lib.hid hW9; have HL9 := Lib.hid hL9
          clear hX9 hB9 hG9 hW9 hL9
          have x0 := HX9.out.cell 0
          have x1 := HX9.out.cell 1
          have x2 := HX9.out.cell 2
          have x3 := HX9.out.cell 3
          have x4 := HX9.out.cell 4
          have x5 := HX9.out.cell 5
          have x6 := HX9.out.cell 6
          have x7 := HX9.out.cell 7
          have x8 := HX9.out.cell 8
          have x9 := HX9.out.cell 9
          have x10 := HX9.out.cell 10
          simp only [List.getElem?_cons_zero, List.getElem?_cons_succ] at x0 x1 x2 x3 x4 x5 x6 x7 x8 x9 x10
          have y0 := HB9.out.cell 0
          have y1 := HB9.out.cell 1
          have y2 := HB9.out.cell 2
          have y3 := HB9.out.cell 3
          have y4 := HB9.out.cell 4
          have y5 := HB9.out.cell 5
          have y6 := HB9.out.cell 6
          have y7 := HB9.out.cell 7
          have y8 := HB9.out.cell 8
          have y9 := HB9.out.cell 9
          have y10 := HB9.out.cell 10
          simp only [List.getElem?_cons_zero, List.getElem?_cons_succ] at y0 y1 y2 y3 y4 y5 y6 y7 y8 y9 y10
          go_wp2_with fail
          refine (HSM.out _ _ HW9.out HG9.out HGS.out).mono ?_
          rintro e wa ⟨rfl, hLa⟩
          have HLa := Lib.hid (HL9.out.trans (hLa.mono HL9.out.size)); clear hLa
          go_wp2_with fail
          go_ret
          exact ⟨rfl, HLa.out⟩
      · rw [hge] at hGb ⊢
        have hvf := valid_fine v hvv
        have HPV := Lib.hid (fun W (h : GapsAt W gb v.gaps) => uPut_any v gb W (by omega) (by omega) (by omega) hvi h)
        rw [show putS v = (b.data.toList, 0) by unfold putS; rw [if_pos hvv, hve]] at HPV
        have hbs : strOf b.data.toList = .string b := by unfold strOf; rfl
        simp only [hbs] at HPV
        clear hge hvv hve hvi hbs hvf HGC HGB
        obtain ⟨gba, gbc, hgb, -⟩ := id hGb
        subst hgb
        obtain ⟨vki, vnu, vnm, vsz, vsu, vof, vda, vwy, van, vme, vgs⟩ := v
        simp only [Un.val] at HPV hGb ⊢
        have HL3' := Lib.hid (HL3.out.alloc HL3.out.size (Obj.cells #[.int .i64 vki, .int .i64 vnu, .string vnm, .int .i64 vsz, .int .u32 vsu, .int .i64 vof, .string vda, .int .i64 vwy, .int .i64 van, .bool vme, .slice gba vgs.length gbc] 25))
        have HX4 := Lib.hid (HX3.out.alloc (Obj.cells #[.int .i64 vki, .int .i64 vnu, .string vnm, .int .i64 vsz, .int .u32 vsu, .int .i64 vof, .string vda, .int .i64 vwy, .int .i64 van, .bool vme, .slice gba vgs.length gbc] 25))
        have HG4 := Lib.hid (HG3.out.below ((Below.refl _ w3).alloc (Nat.le_refl _) (Obj.cells #[.int .i64 vki, .int .i64 vnu, .string vnm, .int .i64 vsz, .int .u32 vsu, .int .i64 vof, .string vda, .int .i64 vwy, .int .i64 van, .bool vme, .slice gba vgs.length gbc] 25)) (Nat.le_refl _))
        have HV4 := Lib.hid (hGb.below ((Below.refl _ w3).alloc (Nat.le_refl _) (Obj.cells #[.int .i64 vki, .int .i64 vnu, .string vnm, .int .i64 vsz, .int .u32 vsu, .int .i64 vof, .string vda, .int .i64 vwy, .int .i64 van, .bool vme, .slice gba vgs.length gbc] 25)) (Nat.le_refl _))
        have HB4 := Lib.hid (Blk.new w3 [.int .i64 vki, .int .i64 vnu, .string vnm, .int .i64 vsz, .int .u32 vsu, .int .i64 vof, .string vda, .int .i64 vwy, .int .i64 van, .bool vme, .slice gba vgs.length gbc] 25)
        obtain ⟨h1, hh1⟩ : ∃ h, h = w3.heap.size := ⟨_, rfl⟩
        rw [← hh1] at HB4
        go_upto_region 7 with fail
        rw [← hh1]
        refine gen_world (fun w' => Blk w' w.heap.size [.int .i64 ki, .int .i64 nu, .string nm, .int .i64 sz, .int .u32 su, .int .i64 of, .string da, .int .i64 wy, .int .i64 an, .bool me, .slice ga gs.length gc] 25 ∧ Blk w' h1 [.int .i64 vki, .int .i64 vnu, .string vnm, .int .i64 vsz, .int .u32 vsu, .int .i64 vof, .string vda, .int .i64 vwy, .int .i64 van, .bool vme, .slice gba vgs.length gbc] 25 ∧ GapsAt w' (.slice ga gs.length gc) gs ∧ GapsAt w' (.slice gba vgs.length gbc) vgs ∧ Below w.heap.size w w') ⟨HX4.out, HB4.out, HG4.out, HV4.out, HL3'.out⟩ ?_
        clear HX4 HB4 HG4 HV4 HL3' HX3 HG3 HL3 hh1 hGb
        rintro w4 ⟨hX4, hB4, hG4, hV4, hL4⟩
        have HX4 := Lib.hid hX4; have HB4 := Lib.hid hB4; have HG4 := Lib.hid hG4; have HV4 := Lib.hid hV4; have HL4 := Lib.hid hL4
        clear hX4 hB4 hG4 hV4 hL4
        have y0 := HB4.out.cell 0
        have y1 := HB4.out.cell 1
        have y2 := HB4.out.cell 2
        have y3 := HB4.out.cell 3
        have y4 := HB4.out.cell 4
        have y5 := HB4.out.cell 5
        have y6 := HB4.out.cell 6
        have y7 := HB4.out.cell 7
        have y8 := HB4.out.cell 8
        have y9 := HB4.out.cell 9
        have y10 := HB4.out.cell 10
        simp only [List.getElem?_cons_zero, List.getElem?_cons_succ] at y0 y1 y2 y3 y4 y5 y6 y7 y8 y9 y10
        go_wp2_with fail
        refine (HPV.out _ HV4.out).mono ?_
        rintro e w5 ⟨rfl, hL5⟩
        have HX5 := Lib.hid (HX4.out.below hL5 HX4.out.lt)
        have HG5 := Lib.hid (HG4.out.below hL5 (Nat.le_refl _))
        have HL5 := Lib.hid (HL4.out.trans (hL5.mono HL4.out.size)); clear hL5 HL4 HX4 HG4 HB4 HV4 y0 y1 y2 y3 y4 y5 y6 y7 y8 y9 y10 HPV
        go_upto_region 10 with fail
        refine gen_world (fun w' => Blk w' w.heap.size [.int .i64 ki, .int .i64 nu, .string nm, .int .i64 sz, .int .u32 su, .int .i64 of, .string da, .int .i64 wy, .int .i64 an, .bool me, .slice ga gs.length gc] 25 ∧ GapsAt w' (.slice ga gs.length gc) gs ∧ Below w.heap.size w w') ⟨HX5.out, HG5.out, HL5.out⟩ ?_
        clear HX5 HG5 HL5
        rintro w6 ⟨hX6, hG6, hL6⟩
        have HX6 := Lib.hid hX6; have HG6 := Lib.hid hG6; have HL6 := Lib.hid hL6
        clear hX6 hG6 hL6
        have x0 := HX6.out.cell 0
        have x1 := HX6.out.cell 1
        have x2 := HX6.out.cell 2
        have x3 := HX6.out.cell 3
        have x4 := HX6.out.cell 4
        have x5 := HX6.out.cell 5
        have x6 := HX6.out.cell 6
        have x7 := HX6.out.cell 7
        have x8 := HX6.out.cell 8
        have x9 := HX6.out.cell 9
        have x10 := HX6.out.cell 10
        simp only [List.getElem?_cons_zero, List.getElem?_cons_succ] at x0 x1 x2 x3 x4 x5 x6 x7 x8 x9 x10
        go_wp2_with fail
        refine (HPU.out _ HG6.out HGS.out).mono ?_
        rintro e w7 ⟨rfl, hL7⟩
        have HX7 := Lib.hid (HX6.out.below hL7 HX6.out.lt)
        have HG7 := Lib.hid (HG6.out.below hL7 (Nat.le_refl _))
        have HL7 := Lib.hid (HL6.out.trans (hL7.mono HL6.out.size)); clear hL7 HL6 HX6 HG6 x0 x1 x2 x3 x4 x5 x6 x7 x8 x9 x10
        cases q
        · rw [HPN.out rfl]
          dsimp only
          simp only [strOf]
          have x0 := HX7.out.cell 0
          have x1 := HX7.out.cell 1
          have x2 := HX7.out.cell 2
          have x3 := HX7.out.cell 3
          have x4 := HX7.out.cell 4
          have x5 := HX7.out.cell 5
          have x6 := HX7.out.cell 6
          have x7 := HX7.out.cell 7
          have x8 := HX7.out.cell 8
          have x9 := HX7.out.cell 9
          have x10 := HX7.out.cell 10
          simp only [List.getElem?_cons_zero, List.getElem?_cons_succ] at x0 x1 x2 x3 x4 x5 x6 x7 x8 x9 x10
          go_wp2_with fail
          refine (HVL.out _ HG7.out HGS.out).mono ?_
          rintro e w8 ⟨rfl, hL8⟩
          have HL8 := Lib.hid (HL7.out.trans (hL8.mono HL7.out.size)); clear hL8
          go_wp2_with fail
          go_ret
          exact ⟨rfl, HL8.out⟩
        · rw [HPO.out rfl]
          dsimp only
          simp only [strOf]
          go_wp2_with fail
          refine (uGet_any ⟨L.toArray⟩ _).mono ?_
          rintro e w8 ⟨gw, rfl, hW8, hL8⟩
          rw [HEN.out (by first | exact rfl | trivial)] at hW8 ⊢
          obtain ⟨gwa, gwc, hgw, -⟩ := id hW8
          subst hgw
          simp only [Un.val] at hW8 ⊢
          have HX8 := Lib.hid (HX7.out.below hL8 HX7.out.lt)
          have HG8 := Lib.hid (HG7.out.below hL8 (Nat.le_refl _))
          have HL8 := Lib.hid (HL7.out.trans (hL8.mono HL7.out.size)); clear hL8 HL7 HX7 HG7
          have HW8 := Lib.hid hW8; clear hW8
          have HL9 := Lib.hid (HL8.out.alloc HL8.out.size (Obj.cells #[.int .i64 ki, .int .i64 nu, .string nm, .int .i64 sz, .int .u32 su, .int .i64 of, .string da, .int .i64 wy, .int .i64 an, .bool me, .slice gwa gs.length gwc] 25))
          have HX9 := Lib.hid (HX8.out.alloc (Obj.cells #[.int .i64 ki, .int .i64 nu, .string nm, .int .i64 sz, .int .u32 su, .int .i64 of, .string da, .int .i64 wy, .int .i64 an, .bool me, .slice gwa gs.length gwc] 25))
          have HG9 := Lib.hid (HG8.out.below ((Below.refl _ w8).alloc (Nat.le_refl _) (Obj.cells #[.int .i64 ki, .int .i64 nu, .string nm, .int .i64 sz, .int .u32 su, .int .i64 of, .string da, .int .i64 wy, .int .i64 an, .bool me, .slice gwa gs.length gwc] 25)) (Nat.le_refl _))
          have HW9 := Lib.hid (HW8.out.below ((Below.refl _ w8).alloc (Nat.le_refl _) (Obj.cells #[.int .i64 ki, .int .i64 nu, .string nm, .int .i64 sz, .int .u32 su, .int .i64 of, .string da, .int .i64 wy, .int .i64 an, .bool me, .slice gwa gs.length gwc] 25)) (Nat.le_refl _))
          have HB9 := Lib.hid (Blk.new w8 [.int .i64 ki, .int .i64 nu, .string nm, .int .i64 sz, .int .u32 su, .int .i64 of, .string da, .int .i64 wy, .int .i64 an, .bool me, .slice gwa gs.length gwc] 25)
          obtain ⟨h2, hh2⟩ : ∃ h, h = w8.heap.size := ⟨_, rfl⟩
          rw [← hh2] at HB9
          go_upto_region 14 with fail
          rw [← hh2]
          refine gen_world (fun w' => Blk w' w.heap.size [.int .i64 ki, .int .i64 nu, .string nm, .int .i64 sz, .int .u32 su, .int .i64 of, .string da, .int .i64 wy, .int .i64 an, .bool me, .slice ga gs.length gc] 25 ∧ Blk w' h2 [.int .i64 ki, .int .i64 nu, .string nm, .int .i64 sz, .int .u32 su, .int .i64 of, .string da, .int .i64 wy, .int .i64 an, .bool me, .slice gwa gs.length gwc] 25 ∧ GapsAt w' (.slice ga gs.length gc) gs ∧ GapsAt w' (.slice gwa gs.length gwc) gs ∧ Below w.heap.size w w') ⟨HX9.out, HB9.out, HG9.out, HW9.out, HL9.out⟩ ?_
          clear HX9 HB9 HG9 HW9 HL9 HX8 HG8 HL8 HW8 hh2
          rintro w9 ⟨hX9, hB9, hG9, hW9, hL9⟩
          have HX9 := Lib.hid hX9; have HB9 := Lib.hid hB9; have HG9 := Lib.hid hG9; have HW9 := Lib.hid hW9; have HL9 := Lib.hid hL9
          clear hX9 hB9 hG9 hW9 hL9
          have x0 := HX9.out.cell 0
          have x1 := HX9.out.cell 1
          have x2 := HX9.out.cell 2
          have x3 := HX9.out.cell 3
          have x4 := HX9.out.cell 4
          have x5 := HX9.out.cell 5
          have x6 := HX9.out.cell 6
          have x7 := HX9.out.cell 7
          have x8 := HX9.out.cell 8
          have x9 := HX9.out.cell 9
          have x10 := HX9.out.cell 10
          simp only [List.getElem?_cons_zero, List.getElem?_cons_succ] at x0 x1 x2 x3 x4 x5 x6 x7 x8 x9 x10
          have y0 := HB9.out.cell 0
          have y1 := HB9.out.cell 1
          have y2 := HB9.out.cell 2
          have y3 := HB9.out.cell 3
          have y4 := HB9.out.cell 4
          have y5 := HB9.out.cell 5
          have y6 := HB9.out.cell 6
          have y7 := HB9.out.cell 7
          have y8 := HB9.out.cell 8
          have y9 := HB9.out.cell 9
          have y10 := HB9.out.cell 10
          simp only [List.getElem?_cons_zero, List.getElem?_cons_succ] at y0 y1 y2 y3 y4 y5 y6 y7 y8 y9 y10
          go_wp2_with fail
          refine (HSM.out _ _ HW9.out HG9.out HGS.out).mono ?_
          rintro e wa ⟨rfl, hLa⟩
          have HLa := Lib.hid (HL9.out.trans (hLa.mono HL9.out.size)); clear hLa
          go_wp2_with fail
          go_ret
          exact ⟨rfl, HLa.out⟩
    · go_wp2_with fail
      go_ret
      exact ⟨rfl, HL2.out⟩
end Go.Proofs.Ytkpgenmlpkfokaa
