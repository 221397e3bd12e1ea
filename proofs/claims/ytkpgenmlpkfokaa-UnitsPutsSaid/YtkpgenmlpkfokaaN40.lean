/- What is proved here: rows of gaps made, laid and appended at a step of a region that draws its order. -/
import Derived.Test.YtkpgenmlpkfokaaN21
import Derived.Laws.MakeOwn
import Derived.Deep.Upon
import Derived.Deep.AppendLies
import Derived.Test.YtkpgenmlpkfokaaEnd
import Derived.Test.YtkpgenmlpkfokaaN25
import Derived.Test.YtkpgenmlpkfokaaRet
import Derived.Test.YtkpgenmlpkfokaaN35
set_option linter.unusedVariables false
set_option linter.unusedSimpArgs false
namespace Go.Proofs.Ytkpgenmlpkfokaa
open Go.RowKit
section
theorem gcells_len : ∀ l : List Gp, (l.flatMap gcells).length = l.length * 2
  | [] => rfl
  | q :: l => by rw [List.flatMap_cons, List.length_append, gcells_len l, List.length_cons]; show 2 + _ = _; omega
theorem run_append_gaps (W : World) (ty : TypeId) (base g c0 : Nat) (l0 l : List Gp) (x : Value) (hrow : GRow W base (.slice (some ⟨g, 0, none⟩) l0.length c0) l0) (hx : GapsAt W x l) (hn : l0.length + l.length ≤ 1000000) (hb : base ≤ W.heap.size) :
    ∃ g' cap' w', (Builtin.append_ #[23, 23] ty #[.slice (some ⟨g, 0, none⟩) l0.length c0, x]).run Try.prog W = .ok (.slice (some ⟨g', 0, none⟩) (l0.length + l.length) cap') w' ∧
      GRow w' base (.slice (some ⟨g', 0, none⟩) (l0.length + l.length) cap') (l0 ++ l) ∧ Keep [g] W w' := by
  obtain ⟨i0, hi, hz0, hz1, hz2⟩ := info_parts info_gap
  obtain ⟨a, cap, rfl, hG⟩ := hx
  have hcap : l0.length ≤ c0 ∧ g < W.heap.size := by
    obtain ⟨hl, ⟨e, _⟩ | ⟨g2, cap2, cur, e, hb2, hg2, hle, _⟩⟩ := hrow
    · cases e
    · injection e with e e1 e2
      injection e with e
      injection e with e3
      subst e2 e3
      exact ⟨hle, (Array.getElem?_eq_some_iff.1 hg2).1⟩
  by_cases h0 : l.length = 0
  · obtain rfl : l = [] := List.eq_nil_of_length_eq_zero h0
    refine ⟨g, c0, W, ?_, by simpa using hrow, Keep.refl _ _⟩
    refine run_append_nothing (P := Try.prog) W 23 23 ty 47 i0 Try.underlying23 hi (some ⟨g, 0, none⟩) l0.length c0 hcap.1 _ ?_
    cases a with
    | none => rw [hz1]; exact Src.ofNil W Try.underlying23 cap
    | some a => rw [hz1]; exact Src.ofSlice W Try.underlying23 a 0 cap [] rfl (by simp) (by simp)
  · obtain ⟨b, off, rfl, hbw, _, _⟩ := hG 0 (by omega)
    have hnews : ∀ j u, (l.flatMap gcells)[j]? = some u → W.cell? ((⟨b, off, none⟩ : Addr).add j) = some u := by
      intro j u hu
      have hlen := gcells_len l
      have hj : j < l.length * 2 := by rw [← hlen]; exact (List.getElem?_eq_some_iff.1 hu).1
      have hadd : (⟨b, off, none⟩ : Addr).add j = ⟨b, off + j, none⟩ := by unfold Addr.add; split <;> simp_all
      obtain ⟨b1, off1, e, _, h1, h2⟩ := hG (j / 2) (by omega)
      injection e with e
      injection e with e1 e2 e3
      subst e1 e2
      obtain ⟨q1, q2⟩ := gcells_at l (j / 2) (by omega)
      rw [hadd]
      rcases (by omega : j = j / 2 * 2 ∨ j = j / 2 * 2 + 1) with e | e
      · rw [e] at hu ⊢; rw [q1] at hu; rw [h1, ← hu]
      · rw [e] at hu ⊢; rw [q2] at hu; rw [← Nat.add_assoc, h2, ← hu]
    have hone : ∀ u ∈ l.flatMap gcells, u.oneCell' = true := by
      intro u hu
      obtain ⟨q, _, hq⟩ := List.mem_flatMap.1 hu
      simp only [gcells, List.mem_cons, List.not_mem_nil, or_false] at hq
      rcases hq with rfl | rfl <;> rfl
    have hlen := gcells_len l
    obtain ⟨g', cap', w', hr, h2, h3, h4, h5⟩ := run_append_lies (P := Try.prog) W 23 ty base 47 i0 (.agg #[.int .i64 0, .int .i64 0]) 2 16 Try.underlying23 hi hz0 hz1 hz2 rfl (by omega) _ l0.length _ hrow ⟨b, off, none⟩ l.length cap (l.flatMap gcells) hlen hnews hone (by omega) (by unfold maxLen; omega) (by omega) hb _ rfl
    have hk : Keep [g] W w' := Keep.ofGrownV h3 (fun y hy => by
      have : g = y := by injection hy
      simp [this])
    refine ⟨g', cap', w', hr, ?_, hk⟩
    unfold GRow
    rw [List.length_append, List.flatMap_append]
    exact h2
theorem step_append_gaps {ops : Array Oper} {o : Oper} {a : Act} {W : World} {K : Act → World → Prop} {Q : Exit → Act → World → Prop} {E : Prop} (hgd : o.guard = none) (s x : Operand)
    (ho : o.op = .call { callee := .builtin .append, args := #[s, x], argTypes := #[23, 23] }) (base g c0 : Nat) (l0 l : List Gp) (v xv : Value) (hv : v = .slice (some ⟨g, 0, none⟩) l0.length c0) (hs : a.eval s = v) (hxv : a.eval x = xv)
    (hrow : GRow W base v l0) (hx : GapsAt W xv l) (hn : l0.length + l.length ≤ 1000000) (hb : base ≤ W.heap.size)
    (h : ∀ g' cap' w', GRow w' base (.slice (some ⟨g', 0, none⟩) (l0.length + l.length) cap') (l0 ++ l) → Keep [g] W w' → K (a.put o.dst (.slice (some ⟨g', 0, none⟩) (l0.length + l.length) cap')) w') :
    if Region.wanted o (yielded ops a.tmps) = true then Oper.wp Try.prog o a W K Q else E := by
  have hw : Region.wanted o (yielded ops a.tmps) = true := by simp [Region.wanted, hgd]
  subst hv
  obtain ⟨g', cap', w', hr, h2, h3⟩ := run_append_gaps W o.type base g c0 l0 l xv hrow hx hn hb
  rw [if_pos hw]
  unfold Oper.wp execOp
  simp only [ho, resolve, invoke, builtin, Sem.run_bind, Sem.run_pure, Result.andThen_ok, List.map_toArray, List.map_cons, List.map_nil, hs, hxv, hr]
  exact h g' cap' w' h2 h3
theorem step_make_gaps {ops : Array Oper} {o : Oper} {a : Act} {W : World} {K : Act → World → Prop} {Q : Exit → Act → World → Prop} {E : Prop} (hgd : o.guard = none) (s x : Operand)
    (ho : o.op = .makeSlice 23 s x) (c : Nat) (hs : a.eval s = .int .i64 0) (hx : a.eval x = .int .i64 (c : Int)) (base : Nat) (hc : c ≤ 1000000) (hb : base ≤ W.heap.size)
    (h : ∀ g w', W.heap.size = g → GRow w' base (.slice (some ⟨g, 0, none⟩) 0 c) [] → Keep [] W w' → g < w'.heap.size → K (a.put o.dst (.slice (some ⟨g, 0, none⟩) 0 c)) w') :
    if Region.wanted o (yielded ops a.tmps) = true then Oper.wp Try.prog o a W K Q else E := by
  obtain ⟨i0, hi, hz0, hz1, hz2⟩ := info_parts info_gap
  have hw : Region.wanted o (yielded ops a.tmps) = true := by simp [Region.wanted, hgd]
  obtain ⟨w', hr, h2, h3⟩ := run_make_own (P := Try.prog) W base 23 47 i0 (.agg #[.int .i64 0, .int .i64 0]) 2 Try.underlying23 hi hz0 hz1 .i64 .i64 c (by rw [hz2]; omega) (by unfold maxLen; omega) hb
  have hlt : W.heap.size < w'.heap.size := by
    obtain ⟨_, ⟨e, _⟩ | ⟨g2, cap2, cur, e, hb2, hg2, _⟩⟩ := h2
    · cases e
    · injection e with e e1 e2
      injection e with e
      injection e with e3
      rw [e3]
      exact (Array.getElem?_eq_some_iff.1 hg2).1
  rw [if_pos hw]
  unfold Oper.wp execOp
  simp only [ho, Sem.run_bind, Sem.run_pure, Result.andThen_ok, hs, hx, hr]
  exact h _ w' rfl h2 (Keep.ofGrownV (v := .slice none 0 0) h3 (fun y hy => by cases hy)) hlt
theorem build_gap (W : World) (y z : Int) : (Instr.buildSlice 23 1 #[(0, .agg #[.int .i64 y, .int .i64 z])]).run Try.prog W = .ok (.slice (some ⟨W.heap.size, 0, none⟩) 1 1) (W.alloc (Obj.cells #[.int .i64 y, .int .i64 z] 47)) := by kernel_rfl
theorem step_build_gap {ops : Array Oper} {o : Oper} {a : Act} {W : World} {K : Act → World → Prop} {Q : Exit → Act → World → Prop} {E : Prop} (hgd : o.guard = none) (x : Operand)
    (ho : o.op = .buildSlice 23 1 #[(0, x)]) (y z : Int) (hx : a.eval x = .agg #[.int .i64 y, .int .i64 z])
    (h : ∀ g w', W.heap.size = g → Blk w' g [.int .i64 y, .int .i64 z] 47 → Keep [] W w' → g < w'.heap.size → K (a.put o.dst (.slice (some ⟨g, 0, none⟩) 1 1)) w') :
    if Region.wanted o (yielded ops a.tmps) = true then Oper.wp Try.prog o a W K Q else E := by
  have hw : Region.wanted o (yielded ops a.tmps) = true := by simp [Region.wanted, hgd]
  rw [if_pos hw]
  have hr : (execOp a.eval o).run Try.prog W = .ok (.value (.slice (some ⟨W.heap.size, 0, none⟩) 1 1)) (W.alloc (Obj.cells #[.int .i64 y, .int .i64 z] 47)) := by
    unfold execOp
    simp only [ho]
    simp only [List.map_toArray, List.map_cons, List.map_nil, hx, Sem.run_bind, Sem.run_pure, build_gap, Result.andThen_ok]
  have hk : Keep [] W (W.alloc (Obj.cells #[.int .i64 y, .int .i64 z] 47)) := (Keep.refl [] W).alloc _
  unfold Oper.wp
  rw [hr]
  exact h _ _ rfl (Blk.new W _ 47) hk (by simp)
theorem make_gaps (c : Nat) (hc : c ≤ 1000000) : ∃ M : Array Value, (∀ W : World, (Instr.makeSlice 23 (.int .i64 0) (.int .i64 (c : Int))).run Try.prog W = .ok (.slice (some ⟨W.heap.size, 0, none⟩) 0 c) (W.alloc (.cells M 47))) ∧ ∀ (W : World) (base : Nat), base ≤ W.heap.size → GRow (W.alloc (.cells M 47)) base (.slice (some ⟨W.heap.size, 0, none⟩) 0 c) [] := by
  obtain ⟨i0, hi, hz0, hz1, hz2⟩ := info_parts info_gap
  refine ⟨madeCells (Value.agg #[.int .i64 0, .int .i64 0]).cells (c * i0.size), fun W => ?_, fun W base hb => ?_⟩
  · have hr := run_make (P := Try.prog) W 23 47 i0 (.agg #[.int .i64 0, .int .i64 0]) Try.underlying23 hi hz0 .i64 .i64 0 c (Int.le_refl _) (by omega) (by rw [hz2]; omega) (by omega)
    simpa using hr
  · rw [hz1]
    exact World.ownsRow_made W _ c hb (by unfold maxLen; omega) (size_madeCells _ _)
end
section
theorem ownsRow_cap {w : World} {base g cap : Nat} {l : List Gp} {n : Nat} (h : GRow w base (.slice (some ⟨g, 0, none⟩) n cap) l) : l.length ≤ cap ∧ g < w.heap.size ∧ base ≤ g ∧ cap ≤ maxLen := by
  obtain ⟨hl, ⟨e, _⟩ | ⟨g2, cap2, cur, e, hb2, hg2, hle, hm, _⟩⟩ := h
  · cases e
  · injection e with e e1 e2
    injection e with e
    injection e with e3
    subst e2 e3
    exact ⟨hle, (Array.getElem?_eq_some_iff.1 hg2).1, hb2, hm⟩
theorem gap_one {w : World} {g : Nat} {a b : Int} (h : Blk w g [.int .i64 a, .int .i64 b] 47) : GapsAt w (.slice (some ⟨g, 0, none⟩) 1 1) [(a, b)] := by
  refine ⟨_, _, rfl, fun i hi => ⟨g, 0, rfl, h.lt, ?_⟩⟩
  obtain rfl : i = 0 := by simp at hi; omega
  exact ⟨(h.cell 0).trans rfl, (h.cell 1).trans rfl⟩
set_option maxHeartbeats 8000000 in
set_option maxRecDepth 100000 in
theorem lend_some (u : Un) (p : Addr) (gc : Nat) (w : World) (hn : u.gaps.length ≤ 200) (hG : GapsAt w (.slice (some p) u.gaps.length gc) u.gaps) :
    Calls Try.prog 11 #[u.val (.slice (some p) u.gaps.length gc)] w fun e w' => ∃ g cap, e = .returned (u.val (.slice (some ⟨g, 0, none⟩) u.gaps.length cap)) ∧ u.gaps.length + 1 ≤ cap ∧ GRow w' w.heap.size (.slice (some ⟨g, 0, none⟩) (u.gaps.length + 1) cap) (u.gaps ++ [(-9, -9)]) ∧ Below w.heap.size w w' := by
  obtain ⟨ki, nu, nm, sz, su, of, da, wy, an, me, gs⟩ := u
  simp only [Un.val] at hn hG ⊢
  have HA := Lib.hid ((Blk.new w [.int .i64 ki, .int .i64 nu, .string nm, .int .i64 sz, .int .u32 su, .int .i64 of, .string da, .int .i64 wy, .int .i64 an, .bool me, .slice (some p) gs.length gc] 25).alloc (Obj.cells #[.int .i64 0, .int .i64 0, .string ⟨#[]⟩, .int .i64 0, .int .u32 0, .int .i64 0, .string ⟨#[]⟩, .int .i64 0, .int .i64 0, .bool false, .slice none 0 0] 25))
  have HB := Lib.hid (Blk.new_at (w.alloc (Obj.cells #[.int .i64 ki, .int .i64 nu, .string nm, .int .i64 sz, .int .u32 su, .int .i64 of, .string da, .int .i64 wy, .int .i64 an, .bool me, .slice (some p) gs.length gc] 25)) [.int .i64 0, .int .i64 0, .string ⟨#[]⟩, .int .i64 0, .int .u32 0, .int .i64 0, .string ⟨#[]⟩, .int .i64 0, .int .i64 0, .bool false, .slice none 0 0] 25 (w.heap.size + 1) (by simp))
  have HL := Lib.hid (((Below.refl w.heap.size w).alloc (Nat.le_refl _) (Obj.cells #[.int .i64 ki, .int .i64 nu, .string nm, .int .i64 sz, .int .u32 su, .int .i64 of, .string da, .int .i64 wy, .int .i64 an, .bool me, .slice (some p) gs.length gc] 25)).alloc (by simp) (Obj.cells #[.int .i64 0, .int .i64 0, .string ⟨#[]⟩, .int .i64 0, .int .u32 0, .int .i64 0, .string ⟨#[]⟩, .int .i64 0, .int .i64 0, .bool false, .slice none 0 0] 25))
  have HG := Lib.hid (hG.below HL.out (Nat.le_refl _))
  have x0 := HA.out.cell 0
  have x1 := HA.out.cell 1
  have x2 := HA.out.cell 2
  have x3 := HA.out.cell 3
  have x4 := HA.out.cell 4
  have x5 := HA.out.cell 5
  have x6 := HA.out.cell 6
  have x7 := HA.out.cell 7
  have x8 := HA.out.cell 8
  have x9 := HA.out.cell 9
  have x10 := HA.out.cell 10
  simp only [List.getElem?_cons_zero, List.getElem?_cons_succ] at x0 x1 x2 x3 x4 x5 x6 x7 x8 x9 x10
  clear hG
  go_enter Try.func11, Try.ntmps11
  go_upto_region 2 with fail
  refine gen_world (fun w' => Blk w' w.heap.size [.int .i64 ki, .int .i64 nu, .string nm, .int .i64 sz, .int .u32 su, .int .i64 of, .string da, .int .i64 wy, .int .i64 an, .bool me, .slice (some p) gs.length gc] 25 ∧ Blk w' (w.heap.size + 1) [.int .i64 0, .int .i64 0, .string ⟨#[]⟩, .int .i64 0, .int .u32 0, .int .i64 0, .string ⟨#[]⟩, .int .i64 0, .int .i64 0, .bool false, .slice none 0 0] 25 ∧ GapsAt w' (.slice (some p) gs.length gc) gs ∧ Below w.heap.size w w') ⟨HA.out, HB.out, HG.out, HL.out⟩ ?_
  clear HA HB HG HL x0 x1 x2 x3 x4 x5 x6 x7 x8 x9 x10
  rintro v ⟨hU, hZ, hG, hL⟩
  have HU := Lib.hid hU; have HZ := Lib.hid hZ; have HG := Lib.hid hG; have HL := Lib.hid hL
  clear hU hZ hG hL
  have hw1 : IntKind.i64.wrap ((gs.length : Int) + 1) = (gs.length : Int) + 1 := IntWalk.i64_in _ (by omega)
  have hB0 : Below v.heap.size v v.drew := (Below.refl _ v).drew
  refine region_end (fun W => W.cell? ⟨w.heap.size, 10, none⟩ = some (.slice (some p) gs.length gc) ∧ Below v.heap.size v W) 16 (by kernel_rfl) ⟨(HU.out.below hB0 HU.out.lt).cell 10, hB0⟩ (fun hInv hHeld => ?_)
  refine WpEnd.take (i := 0) (some 6) (v := ?_) rfl rfl (by kernel_rfl) (by kernel_rfl) (by kernel_rfl) (fun _ _ _ h => h) (by kernel_rfl) hInv (by assumption) (by rfl) ?_ (fun hInv => ?_)
  rotate_left
  · (intro w hSw; (try dsimp only at hSw); go_simp; (try with_reducible rfl))
  simp only [Act.put, List.setIfInBounds_toArray, List.set_cons_zero, List.set_cons_succ]
  refine WpEnd.take (i := 1) (some 7) (v := ?_) rfl rfl (by kernel_rfl) (by kernel_rfl) (by kernel_rfl) (fun _ _ _ h => h) (by kernel_rfl) hInv (by assumption) (by rfl) ?_ (fun hInv => ?_)
  rotate_left
  · (intro w hSw; (try dsimp only at hSw); go_simp; (try with_reducible rfl))
  simp only [Act.put, List.setIfInBounds_toArray, List.set_cons_zero, List.set_cons_succ]
  refine WpEnd.take (i := 2) (some 8) (v := ?_) rfl rfl (by kernel_rfl) (by kernel_rfl) (by kernel_rfl) (fun _ _ _ h => h) (by kernel_rfl) hInv (by assumption) (by rfl) ?_ (fun hInv => ?_)
  rotate_left
  · (intro w hSw; (try dsimp only at hSw); go_simp; (try with_reducible rfl))
  simp only [Act.put, List.setIfInBounds_toArray, List.set_cons_zero, List.set_cons_succ]
  refine WpEnd.take (i := 3) (some 9) (v := ?_) rfl rfl (by kernel_rfl) (by kernel_rfl) (by kernel_rfl) (fun _ _ _ h => h) (by kernel_rfl) hInv (by assumption) (by rfl) ?_ (fun hInv => ?_)
  rotate_left
  · (intro w hSw; (try dsimp only at hSw); go_simp; (try with_reducible rfl))
  simp only [Act.put, List.setIfInBounds_toArray, List.set_cons_zero, List.set_cons_succ]
  refine WpEnd.take (i := 5) (some 11) (v := ?_) rfl rfl (by kernel_rfl) (by kernel_rfl) (by kernel_rfl) (fun _ _ _ h => h) (by kernel_rfl) hInv (by assumption) (by rfl) ?_ (fun hInv => ?_)
  rotate_left
  · (intro w hSw; (try dsimp only at hSw); go_simp; (try with_reducible rfl))
  simp only [Act.put, List.setIfInBounds_toArray, List.set_cons_zero, List.set_cons_succ]
  refine WpEnd.take (i := 6) (some 12) (v := ?_) rfl rfl (by kernel_rfl) (by kernel_rfl) (by kernel_rfl) (fun _ _ _ h => h) (by kernel_rfl) hInv (by assumption) (by rfl) ?_ (fun hInv => ?_)
  rotate_left
  · (intro w hSw; (try dsimp only at hSw); go_simp; (try with_reducible rfl))
  simp only [Act.put, List.setIfInBounds_toArray, List.set_cons_zero, List.set_cons_succ]
  refine WpEnd.take (i := 8) (some 14) (v := ?_) rfl rfl (by kernel_rfl) (by kernel_rfl) (by kernel_rfl) (fun _ _ _ h => h) (by kernel_rfl) hInv (by assumption) (by rfl) ?_ (fun hInv => ?_)
  rotate_left
  · (intro w hSw; (try dsimp only at hSw); go_simp; (try with_reducible rfl))
  simp only [Act.put, List.setIfInBounds_toArray, List.set_cons_zero, List.set_cons_succ]
  refine WpEnd.take (i := 11) (some 17) (v := ?_) rfl rfl (by kernel_rfl) (by kernel_rfl) (by kernel_rfl) (fun _ _ _ h => h) (by kernel_rfl) hInv (by assumption) (by rfl) ?_ (fun hInv => ?_)
  rotate_left
  · (intro w hSw; (try dsimp only at hSw); go_simp; (try with_reducible rfl))
  simp only [Act.put, List.setIfInBounds_toArray, List.set_cons_zero, List.set_cons_succ]
  refine WpEnd.take (i := 12) (some 18) (v := ?_) rfl rfl (by kernel_rfl) (by kernel_rfl) (by kernel_rfl) (fun _ _ _ h => h) (by kernel_rfl) hInv (by assumption) (by rfl) ?_ (fun hInv => ?_)
  rotate_left
  · (intro w hSw; (try dsimp only at hSw); go_simp; (try with_reducible rfl))
  simp only [Act.put, List.setIfInBounds_toArray, List.set_cons_zero, List.set_cons_succ]
  refine WpEnd.take (i := 13) (some 19) (v := ?_) rfl rfl (by kernel_rfl) (by kernel_rfl) (by kernel_rfl) (fun _ _ _ h => h) (by kernel_rfl) hInv (by assumption) (by rfl) ?_ (fun hInv => ?_)
  rotate_left
  · (intro w hSw; (try dsimp only at hSw); go_simp; (try with_reducible rfl))
  simp only [Act.put, List.setIfInBounds_toArray, List.set_cons_zero, List.set_cons_succ]
  refine WpEnd.ready (rs := [4, 9]) (by kernel_rfl) (by simp) ?_
  refine EachEnd.cons (some 10) rfl rfl (by decide) (by kernel_rfl) hInv (fun K hKK hKB => ?_) ?_
  · refine step_make_gaps rfl _ _ rfl (gs.length + 1) rfl rfl v.heap.size (by omega) hB0.size ?_
    intro gM wM eM hM kM lM
    have qM : v.heap.size ≤ gM := (hM.lt gM rfl).1
    have hB1 := hB0.trans (kM.toBelowAt hB0.size (by simp))
    refine hKK.out _ _ ⟨(HU.out.below hB1 HU.out.lt).cell 10, hB1⟩ (fun hInv hHeld => ?_)
    clear hKK hKB K
    try simp only [Act.put, List.setIfInBounds_toArray, List.set_cons_zero, List.set_cons_succ]
    refine WpEnd.ready (rs := [7, 9]) (by kernel_rfl) (by simp) ?_
    refine EachEnd.cons (some 13) rfl rfl (by decide) (by kernel_rfl) hInv (fun K hKK hKB => ?_) ?_
    · refine step_append_gaps rfl _ _ rfl v.heap.size gM (gs.length + 1) [] gs (.slice (some ⟨gM, 0, none⟩) 0 (gs.length + 1)) (.slice (some p) gs.length gc) rfl rfl rfl hM (HG.out.below hB1 (Nat.le_refl _)) (by simp; omega) hB1.size ?_
      intro gA cA wA hA kA
      simp only [List.length_nil, Nat.zero_add, List.nil_append] at hA ⊢
      have qA : v.heap.size ≤ gA := (hA.lt gA rfl).1
      have hB2 := hB1.trans (kA.toBelowAt hB1.size (by simpa using qM))
      refine hKK.out _ _ ⟨(HU.out.below hB2 HU.out.lt).cell 10, hB2⟩ (fun hInv hHeld => ?_)
      clear hKK hKB K
      try simp only [Act.put, List.setIfInBounds_toArray, List.set_cons_zero, List.set_cons_succ]
      refine WpEnd.ready (rs := [9]) (by kernel_rfl) (by simp) ?_
      refine EachEnd.cons (some 15) rfl rfl (by decide) (by kernel_rfl) hInv (fun K hKK hKB => ?_) ?_
      · refine step_build_gap rfl _ rfl (-9) (-9) rfl ?_
        intro gB wB eB hBd kB lB
        replace hA := hA.keep kB (fun _ _ => by simp)
        have hB3 := hB2.trans (kB.toBelowAt hB2.size (by simp))
        refine hKK.out _ _ ⟨(HU.out.below hB3 HU.out.lt).cell 10, hB3⟩ (fun hInv hHeld => ?_)
        clear hKK hKB K
        try simp only [Act.put, List.setIfInBounds_toArray, List.set_cons_zero, List.set_cons_succ]
        refine WpEnd.ready (rs := [10]) (by kernel_rfl) (by simp) ?_
        refine EachEnd.cons (some 16) rfl rfl (by decide) (by kernel_rfl) hInv (fun K hKK hKB => ?_) ?_
        · refine step_append_gaps rfl _ _ rfl v.heap.size gA cA gs [(-9, -9)] (.slice (some ⟨gA, 0, none⟩) gs.length cA) (.slice (some ⟨gB, 0, none⟩) 1 1) rfl rfl rfl hA (gap_one hBd) (by simp; omega) hB3.size ?_
          intro gC cC wC hC kC
          simp only [List.length_cons, List.length_nil, Nat.zero_add] at hC ⊢
          have hB4 := hB3.trans (kC.toBelowAt hB3.size (by simpa using qA))
          have hqC1 : gs.length + 1 ≤ cC := by have := (ownsRow_cap hC).1; simpa using this
          have hqC2 : gs.length ≤ cC := by omega
          refine hKK.out _ _ ⟨(HU.out.below hB4 HU.out.lt).cell 10, hB4⟩ (fun hInv hHeld => ?_)
          clear hKK hKB K
          try simp only [Act.put, List.setIfInBounds_toArray, List.set_cons_zero, List.set_cons_succ]
          refine WpEnd.take (i := 14) (some 20) (v := ?_) rfl rfl (by kernel_rfl) (by kernel_rfl) (by kernel_rfl) (fun _ _ _ h => h) (by kernel_rfl) hInv (by assumption) (by rfl) ?_ (fun hInv => ?_)
          rotate_left
          · (intro w hSw; (try dsimp only at hSw); go_simp; (try with_reducible rfl))
          simp only [Act.put, List.setIfInBounds_toArray, List.set_cons_zero, List.set_cons_succ]
          refine WpEnd.take (i := 15) (some 21) (v := ?_) rfl rfl (by kernel_rfl) (by kernel_rfl) (by kernel_rfl) (fun _ _ _ h => h) (by kernel_rfl) hInv (by assumption) (by rfl) ?_ (fun hInv => ?_)
          rotate_left
          · (intro w hSw; (try dsimp only at hSw); go_simp; (try with_reducible rfl))
          simp only [Act.put, List.setIfInBounds_toArray, List.set_cons_zero, List.set_cons_succ]
          refine WpEnd.ready (rs := [16]) (by kernel_rfl) (by simp) ?_
          refine EachEnd.last rfl (fun K hKK => ?_)
          have c0 := (HU.out.below hB4 HU.out.lt).cell 10
          have f0 := (HU.out.below hB4 HU.out.lt).free 10
          simp only [List.getElem?_cons_zero, List.getElem?_cons_succ] at c0
          go_simp
          refine hKK.out _ _ ?_
          clear hKK K
          refine WpEnd.done (by kernel_rfl) ?_ _
          have hPU := (HU.out.below hB4 HU.out.lt).set 10 (.slice (some ⟨gC, 0, none⟩) gs.length cC)
          have hPZ := (HZ.out.below hB4 HZ.out.lt).set_far (p := ⟨w.heap.size, 10, none⟩) (by simp) (.slice (some ⟨gC, 0, none⟩) gs.length cC)
          have hPL := (HL.out.trans (hB4.mono HL.out.size)).setCell (p := ⟨w.heap.size, 10, none⟩) (Nat.le_refl _) (.slice (some ⟨gC, 0, none⟩) gs.length cC)
          have hPC : GRow (wC.setCell ⟨w.heap.size, 10, none⟩ (.slice (some ⟨gC, 0, none⟩) gs.length cC)) v.heap.size (.slice (some ⟨gC, 0, none⟩) (gs.length + 1) cC) (gs ++ [(-9, -9)]) := ((by simpa using hC : GRow wC v.heap.size (.slice (some ⟨gC, 0, none⟩) (gs.length + 1) cC) (gs ++ [(-9, -9)])).keep ((Keep.refl [w.heap.size] wC).setCell (p := ⟨w.heap.size, 10, none⟩) (.inl (by simp)) _) (fun g hg => by have := HU.out.lt; have := (hC.lt g hg).1; simp; omega))
          refine post_any (fun W => Blk W w.heap.size [.int .i64 ki, .int .i64 nu, .string nm, .int .i64 sz, .int .u32 su, .int .i64 of, .string da, .int .i64 wy, .int .i64 an, .bool me, .slice (some ⟨gC, 0, none⟩) gs.length cC] 25 ∧ Blk W (w.heap.size + 1) [.int .i64 0, .int .i64 0, .string ⟨#[]⟩, .int .i64 0, .int .u32 0, .int .i64 0, .string ⟨#[]⟩, .int .i64 0, .int .i64 0, .bool false, .slice none 0 0] 25 ∧ GRow W v.heap.size (.slice (some ⟨gC, 0, none⟩) (gs.length + 1) cC) (gs ++ [(-9, -9)]) ∧ Below w.heap.size w W) ⟨hPU, hPZ, hPC, hPL⟩ ?_
          clear hPU hPZ hPC hPL
          rintro y ⟨hU2, hZ2, hC2, hL2⟩
          have HU2 := Lib.hid hU2; have HZ2 := Lib.hid hZ2; have HC2 := Lib.hid hC2; have HL2 := Lib.hid hL2
          have HQ := Lib.hid hqC1
          clear hU2 hZ2 hC2 hL2
          have x0 := HU2.out.cell 0
          have x1 := HU2.out.cell 1
          have x2 := HU2.out.cell 2
          have x3 := HU2.out.cell 3
          have x4 := HU2.out.cell 4
          have x5 := HU2.out.cell 5
          have x6 := HU2.out.cell 6
          have x7 := HU2.out.cell 7
          have x8 := HU2.out.cell 8
          have x9 := HU2.out.cell 9
          have x10 := HU2.out.cell 10
          simp only [List.getElem?_cons_zero, List.getElem?_cons_succ] at x0 x1 x2 x3 x4 x5 x6 x7 x8 x9 x10
          go_wp2_with (refine store_blk rfl _ _ _ rfl (w.heap.size + 1) 25 _ [.int .i64 ki, .int .i64 nu, .string nm, .int .i64 sz, .int .u32 su, .int .i64 of, .string da, .int .i64 wy, .int .i64 an, .bool me, .slice (some ⟨gC, 0, none⟩) gs.length cC] rfl rfl HZ2.out rfl (by kernel_rfl) (by kernel_rfl) ?_)
          intro w9 hU9 hK9
          go_wp2_with fail
          refine ret_cell rfl (w.heap.size + 1) 25 [.int .i64 ki, .int .i64 nu, .string nm, .int .i64 sz, .int .u32 su, .int .i64 of, .string da, .int .i64 wy, .int .i64 an, .bool me, .slice (some ⟨gC, 0, none⟩) gs.length cC] rfl hU9 Try.underlying25 rfl (by kernel_rfl) rfl ?_
          exact ⟨gC, cC, rfl, HQ.out, ownsRow_mono (HC2.out.keep hK9 (fun g hg => by have := (HC2.out.lt g hg).1; have := HZ.out.lt; simp; omega)) HL.out.size, HL2.out.trans (hK9.toBelowAt HL2.out.size (by simp))⟩
        exact EachEnd.nil
      exact EachEnd.nil
    refine EachEnd.cons (some 15) rfl rfl (by decide) (by kernel_rfl) hInv (fun K hKK hKB => ?_) ?_
    · refine step_build_gap rfl _ rfl (-9) (-9) rfl ?_
      intro gB wB eB hBd kB lB
      have nMB : gB ≠ gM := by omega
      replace hM := hM.keep kB (fun _ _ => by simp)
      have hB2 := hB1.trans (kB.toBelowAt hB1.size (by simp))
      refine hKK.out _ _ ⟨(HU.out.below hB2 HU.out.lt).cell 10, hB2⟩ (fun hInv hHeld => ?_)
      clear hKK hKB K
      try simp only [Act.put, List.setIfInBounds_toArray, List.set_cons_zero, List.set_cons_succ]
      refine WpEnd.ready (rs := [7]) (by kernel_rfl) (by simp) ?_
      refine EachEnd.cons (some 13) rfl rfl (by decide) (by kernel_rfl) hInv (fun K hKK hKB => ?_) ?_
      · refine step_append_gaps rfl _ _ rfl v.heap.size gM (gs.length + 1) [] gs (.slice (some ⟨gM, 0, none⟩) 0 (gs.length + 1)) (.slice (some p) gs.length gc) rfl rfl rfl hM (HG.out.below hB2 (Nat.le_refl _)) (by simp; omega) hB2.size ?_
        intro gA cA wA hA kA
        simp only [List.length_nil, Nat.zero_add, List.nil_append] at hA ⊢
        have qA : v.heap.size ≤ gA := (hA.lt gA rfl).1
        replace hBd := hBd.keep kA (by simpa using nMB)
        have hB3 := hB2.trans (kA.toBelowAt hB2.size (by simpa using qM))
        refine hKK.out _ _ ⟨(HU.out.below hB3 HU.out.lt).cell 10, hB3⟩ (fun hInv hHeld => ?_)
        clear hKK hKB K
        try simp only [Act.put, List.setIfInBounds_toArray, List.set_cons_zero, List.set_cons_succ]
        refine WpEnd.ready (rs := [10]) (by kernel_rfl) (by simp) ?_
        refine EachEnd.cons (some 16) rfl rfl (by decide) (by kernel_rfl) hInv (fun K hKK hKB => ?_) ?_
        · refine step_append_gaps rfl _ _ rfl v.heap.size gA cA gs [(-9, -9)] (.slice (some ⟨gA, 0, none⟩) gs.length cA) (.slice (some ⟨gB, 0, none⟩) 1 1) rfl rfl rfl hA (gap_one hBd) (by simp; omega) hB3.size ?_
          intro gC cC wC hC kC
          simp only [List.length_cons, List.length_nil, Nat.zero_add] at hC ⊢
          have hB4 := hB3.trans (kC.toBelowAt hB3.size (by simpa using qA))
          have hqC1 : gs.length + 1 ≤ cC := by have := (ownsRow_cap hC).1; simpa using this
          have hqC2 : gs.length ≤ cC := by omega
          refine hKK.out _ _ ⟨(HU.out.below hB4 HU.out.lt).cell 10, hB4⟩ (fun hInv hHeld => ?_)
          clear hKK hKB K
          try simp only [Act.put, List.setIfInBounds_toArray, List.set_cons_zero, List.set_cons_succ]
          refine WpEnd.take (i := 14) (some 20) (v := ?_) rfl rfl (by kernel_rfl) (by kernel_rfl) (by kernel_rfl) (fun _ _ _ h => h) (by kernel_rfl) hInv (by assumption) (by rfl) ?_ (fun hInv => ?_)
          rotate_left
          · (intro w hSw; (try dsimp only at hSw); go_simp; (try with_reducible rfl))
          simp only [Act.put, List.setIfInBounds_toArray, List.set_cons_zero, List.set_cons_succ]
          refine WpEnd.take (i := 15) (some 21) (v := ?_) rfl rfl (by kernel_rfl) (by kernel_rfl) (by kernel_rfl) (fun _ _ _ h => h) (by kernel_rfl) hInv (by assumption) (by rfl) ?_ (fun hInv => ?_)
          rotate_left
          · (intro w hSw; (try dsimp only at hSw); go_simp; (try with_reducible rfl))
          simp only [Act.put, List.setIfInBounds_toArray, List.set_cons_zero, List.set_cons_succ]
          refine WpEnd.ready (rs := [16]) (by kernel_rfl) (by simp) ?_
          refine EachEnd.last rfl (fun K hKK => ?_)
          have c0 := (HU.out.below hB4 HU.out.lt).cell 10
          have f0 := (HU.out.below hB4 HU.out.lt).free 10
          simp only [List.getElem?_cons_zero, List.getElem?_cons_succ] at c0
          go_simp
          refine hKK.out _ _ ?_
          clear hKK K
          refine WpEnd.done (by kernel_rfl) ?_ _
          have hPU := (HU.out.below hB4 HU.out.lt).set 10 (.slice (some ⟨gC, 0, none⟩) gs.length cC)
          have hPZ := (HZ.out.below hB4 HZ.out.lt).set_far (p := ⟨w.heap.size, 10, none⟩) (by simp) (.slice (some ⟨gC, 0, none⟩) gs.length cC)
          have hPL := (HL.out.trans (hB4.mono HL.out.size)).setCell (p := ⟨w.heap.size, 10, none⟩) (Nat.le_refl _) (.slice (some ⟨gC, 0, none⟩) gs.length cC)
          have hPC : GRow (wC.setCell ⟨w.heap.size, 10, none⟩ (.slice (some ⟨gC, 0, none⟩) gs.length cC)) v.heap.size (.slice (some ⟨gC, 0, none⟩) (gs.length + 1) cC) (gs ++ [(-9, -9)]) := ((by simpa using hC : GRow wC v.heap.size (.slice (some ⟨gC, 0, none⟩) (gs.length + 1) cC) (gs ++ [(-9, -9)])).keep ((Keep.refl [w.heap.size] wC).setCell (p := ⟨w.heap.size, 10, none⟩) (.inl (by simp)) _) (fun g hg => by have := HU.out.lt; have := (hC.lt g hg).1; simp; omega))
          refine post_any (fun W => Blk W w.heap.size [.int .i64 ki, .int .i64 nu, .string nm, .int .i64 sz, .int .u32 su, .int .i64 of, .string da, .int .i64 wy, .int .i64 an, .bool me, .slice (some ⟨gC, 0, none⟩) gs.length cC] 25 ∧ Blk W (w.heap.size + 1) [.int .i64 0, .int .i64 0, .string ⟨#[]⟩, .int .i64 0, .int .u32 0, .int .i64 0, .string ⟨#[]⟩, .int .i64 0, .int .i64 0, .bool false, .slice none 0 0] 25 ∧ GRow W v.heap.size (.slice (some ⟨gC, 0, none⟩) (gs.length + 1) cC) (gs ++ [(-9, -9)]) ∧ Below w.heap.size w W) ⟨hPU, hPZ, hPC, hPL⟩ ?_
          clear hPU hPZ hPC hPL
          rintro y ⟨hU2, hZ2, hC2, hL2⟩
          have HU2 := Lib.hid hU2; have HZ2 := Lib.hid hZ2; have HC2 := Lib.hid hC2; have HL2 := Lib.hid hL2
          have HQ := Lib.hid hqC1
          clear hU2 hZ2 hC2 hL2
          have x0 := HU2.out.cell 0
          have x1 := HU2.out.cell 1
          have x2 := HU2.out.cell 2
          have x3 := HU2.out.cell 3
          have x4 := HU2.out.cell 4
          have x5 := HU2.out.cell 5
          have x6 := HU2.out.cell 6
          have x7 := HU2.out.cell 7
          have x8 := HU2.out.cell 8
          have x9 := HU2.out.cell 9
          have x10 := HU2.out.cell 10
          simp only [List.getElem?_cons_zero, List.getElem?_cons_succ] at x0 x1 x2 x3 x4 x5 x6 x7 x8 x9 x10
          go_wp2_with (refine store_blk rfl _ _ _ rfl (w.heap.size + 1) 25 _ [.int .i64 ki, .int .i64 nu, .string nm, .int .i64 sz, .int .u32 su, .int .i64 of, .string da, .int .i64 wy, .int .i64 an, .bool me, .slice (some ⟨gC, 0, none⟩) gs.length cC] rfl rfl HZ2.out rfl (by kernel_rfl) (by kernel_rfl) ?_)
          intro w9 hU9 hK9
          go_wp2_with fail
          refine ret_cell rfl (w.heap.size + 1) 25 [.int .i64 ki, .int .i64 nu, .string nm, .int .i64 sz, .int .u32 su, .int .i64 of, .string da, .int .i64 wy, .int .i64 an, .bool me, .slice (some ⟨gC, 0, none⟩) gs.length cC] rfl hU9 Try.underlying25 rfl (by kernel_rfl) rfl ?_
          exact ⟨gC, cC, rfl, HQ.out, ownsRow_mono (HC2.out.keep hK9 (fun g hg => by have := (HC2.out.lt g hg).1; have := HZ.out.lt; simp; omega)) HL.out.size, HL2.out.trans (hK9.toBelowAt HL2.out.size (by simp))⟩
        exact EachEnd.nil
      exact EachEnd.nil
    exact EachEnd.nil
  refine EachEnd.cons (some 15) rfl rfl (by decide) (by kernel_rfl) hInv (fun K hKK hKB => ?_) ?_
  · refine step_build_gap rfl _ rfl (-9) (-9) rfl ?_
    intro gB wB eB hBd kB lB
    have hB1 := hB0.trans (kB.toBelowAt hB0.size (by simp))
    refine hKK.out _ _ ⟨(HU.out.below hB1 HU.out.lt).cell 10, hB1⟩ (fun hInv hHeld => ?_)
    clear hKK hKB K
    try simp only [Act.put, List.setIfInBounds_toArray, List.set_cons_zero, List.set_cons_succ]
    refine WpEnd.ready (rs := [4]) (by kernel_rfl) (by simp) ?_
    refine EachEnd.cons (some 10) rfl rfl (by decide) (by kernel_rfl) hInv (fun K hKK hKB => ?_) ?_
    · refine step_make_gaps rfl _ _ rfl (gs.length + 1) rfl rfl v.heap.size (by omega) hB1.size ?_
      intro gM wM eM hM kM lM
      have qM : v.heap.size ≤ gM := (hM.lt gM rfl).1
      have nMB : gB ≠ gM := by omega
      replace hBd := hBd.keep kM (by simp)
      have hB2 := hB1.trans (kM.toBelowAt hB1.size (by simp))
      refine hKK.out _ _ ⟨(HU.out.below hB2 HU.out.lt).cell 10, hB2⟩ (fun hInv hHeld => ?_)
      clear hKK hKB K
      try simp only [Act.put, List.setIfInBounds_toArray, List.set_cons_zero, List.set_cons_succ]
      refine WpEnd.ready (rs := [7]) (by kernel_rfl) (by simp) ?_
      refine EachEnd.cons (some 13) rfl rfl (by decide) (by kernel_rfl) hInv (fun K hKK hKB => ?_) ?_
      · refine step_append_gaps rfl _ _ rfl v.heap.size gM (gs.length + 1) [] gs (.slice (some ⟨gM, 0, none⟩) 0 (gs.length + 1)) (.slice (some p) gs.length gc) rfl rfl rfl hM (HG.out.below hB2 (Nat.le_refl _)) (by simp; omega) hB2.size ?_
        intro gA cA wA hA kA
        simp only [List.length_nil, Nat.zero_add, List.nil_append] at hA ⊢
        have qA : v.heap.size ≤ gA := (hA.lt gA rfl).1
        replace hBd := hBd.keep kA (by simpa using nMB)
        have hB3 := hB2.trans (kA.toBelowAt hB2.size (by simpa using qM))
        refine hKK.out _ _ ⟨(HU.out.below hB3 HU.out.lt).cell 10, hB3⟩ (fun hInv hHeld => ?_)
        clear hKK hKB K
        try simp only [Act.put, List.setIfInBounds_toArray, List.set_cons_zero, List.set_cons_succ]
        refine WpEnd.ready (rs := [10]) (by kernel_rfl) (by simp) ?_
        refine EachEnd.cons (some 16) rfl rfl (by decide) (by kernel_rfl) hInv (fun K hKK hKB => ?_) ?_
        · refine step_append_gaps rfl _ _ rfl v.heap.size gA cA gs [(-9, -9)] (.slice (some ⟨gA, 0, none⟩) gs.length cA) (.slice (some ⟨gB, 0, none⟩) 1 1) rfl rfl rfl hA (gap_one hBd) (by simp; omega) hB3.size ?_
          intro gC cC wC hC kC
          simp only [List.length_cons, List.length_nil, Nat.zero_add] at hC ⊢
          have hB4 := hB3.trans (kC.toBelowAt hB3.size (by simpa using qA))
          have hqC1 : gs.length + 1 ≤ cC := by have := (ownsRow_cap hC).1; simpa using this
          have hqC2 : gs.length ≤ cC := by omega
          refine hKK.out _ _ ⟨(HU.out.below hB4 HU.out.lt).cell 10, hB4⟩ (fun hInv hHeld => ?_)
          clear hKK hKB K
          try simp only [Act.put, List.setIfInBounds_toArray, List.set_cons_zero, List.set_cons_succ]
          refine WpEnd.take (i := 14) (some 20) (v := ?_) rfl rfl (by kernel_rfl) (by kernel_rfl) (by kernel_rfl) (fun _ _ _ h => h) (by kernel_rfl) hInv (by assumption) (by rfl) ?_ (fun hInv => ?_)
          rotate_left
          · (intro w hSw; (try dsimp only at hSw); go_simp; (try with_reducible rfl))
          simp only [Act.put, List.setIfInBounds_toArray, List.set_cons_zero, List.set_cons_succ]
          refine WpEnd.take (i := 15) (some 21) (v := ?_) rfl rfl (by kernel_rfl) (by kernel_rfl) (by kernel_rfl) (fun _ _ _ h => h) (by kernel_rfl) hInv (by assumption) (by rfl) ?_ (fun hInv => ?_)
          rotate_left
          · (intro w hSw; (try dsimp only at hSw); go_simp; (try with_reducible rfl))
          simp only [Act.put, List.setIfInBounds_toArray, List.set_cons_zero, List.set_cons_succ]
          refine WpEnd.ready (rs := [16]) (by kernel_rfl) (by simp) ?_
          refine EachEnd.last rfl (fun K hKK => ?_)
          have c0 := (HU.out.below hB4 HU.out.lt).cell 10
          have f0 := (HU.out.below hB4 HU.out.lt).free 10
          simp only [List.getElem?_cons_zero, List.getElem?_cons_succ] at c0
          go_simp
          refine hKK.out _ _ ?_
          clear hKK K
          refine WpEnd.done (by kernel_rfl) ?_ _
          have hPU := (HU.out.below hB4 HU.out.lt).set 10 (.slice (some ⟨gC, 0, none⟩) gs.length cC)
          have hPZ := (HZ.out.below hB4 HZ.out.lt).set_far (p := ⟨w.heap.size, 10, none⟩) (by simp) (.slice (some ⟨gC, 0, none⟩) gs.length cC)
          have hPL := (HL.out.trans (hB4.mono HL.out.size)).setCell (p := ⟨w.heap.size, 10, none⟩) (Nat.le_refl _) (.slice (some ⟨gC, 0, none⟩) gs.length cC)
          have hPC : GRow (wC.setCell ⟨w.heap.size, 10, none⟩ (.slice (some ⟨gC, 0, none⟩) gs.length cC)) v.heap.size (.slice (some ⟨gC, 0, none⟩) (gs.length + 1) cC) (gs ++ [(-9, -9)]) := ((by simpa using hC : GRow wC v.heap.size (.slice (some ⟨gC, 0, none⟩) (gs.length + 1) cC) (gs ++ [(-9, -9)])).keep ((Keep.refl [w.heap.size] wC).setCell (p := ⟨w.heap.size, 10, none⟩) (.inl (by simp)) _) (fun g hg => by have := HU.out.lt; have := (hC.lt g hg).1; simp; omega))
          refine post_any (fun W => Blk W w.heap.size [.int .i64 ki, .int .i64 nu, .string nm, .int .i64 sz, .int .u32 su, .int .i64 of, .string da, .int .i64 wy, .int .i64 an, .bool me, .slice (some ⟨gC, 0, none⟩) gs.length cC] 25 ∧ Blk W (w.heap.size + 1) [.int .i64 0, .int .i64 0, .string ⟨#[]⟩, .int .i64 0, .int .u32 0, .int .i64 0, .string ⟨#[]⟩, .int .i64 0, .int .i64 0, .bool false, .slice none 0 0] 25 ∧ GRow W v.heap.size (.slice (some ⟨gC, 0, none⟩) (gs.length + 1) cC) (gs ++ [(-9, -9)]) ∧ Below w.heap.size w W) ⟨hPU, hPZ, hPC, hPL⟩ ?_
          clear hPU hPZ hPC hPL
          rintro y ⟨hU2, hZ2, hC2, hL2⟩
          have HU2 := Lib.hid hU2; have HZ2 := Lib.hid hZ2; have HC2 := Lib.hid hC2; have HL2 := Lib.hid hL2
          have HQ := Lib.hid hqC1
          clear hU2 hZ2 hC2 hL2
          have x0 := HU2.out.cell 0
          have x1 := HU2.out.cell 1
          have x2 := HU2.out.cell 2
          have x3 := HU2.out.cell 3
          have x4 := HU2.out.cell 4
          have x5 := HU2.out.cell 5
          have x6 := HU2.out.cell 6
          have x7 := HU2.out.cell 7
          have x8 := HU2.out.cell 8
          have x9 := HU2.out.cell 9
          have x10 := HU2.out.cell 10
          simp only [List.getElem?_cons_zero, List.getElem?_cons_succ] at x0 x1 x2 x3 x4 x5 x6 x7 x8 x9 x10
          go_wp2_with (refine store_blk rfl _ _ _ rfl (w.heap.size + 1) 25 _ [.int .i64 ki, .int .i64 nu, .string nm, .int .i64 sz, .int .u32 su, .int .i64 of, .string da, .int .i64 wy, .int .i64 an, .bool me, .slice (some ⟨gC, 0, none⟩) gs.length cC] rfl rfl HZ2.out rfl (by kernel_rfl) (by kernel_rfl) ?_)
          intro w9 hU9 hK9
          go_wp2_with fail
          refine ret_cell rfl (w.heap.size + 1) 25 [.int .i64 ki, .int .i64 nu, .string nm, .int .i64 sz, .int .u32 su, .int .i64 of, .string da, .int .i64 wy, .int .i64 an, .bool me, .slice (some ⟨gC, 0, none⟩) gs.length cC] rfl hU9 Try.underlying25 rfl (by kernel_rfl) rfl ?_
          exact ⟨gC, cC, rfl, HQ.out, ownsRow_mono (HC2.out.keep hK9 (fun g hg => by have := (HC2.out.lt g hg).1; have := HZ.out.lt; simp; omega)) HL.out.size, HL2.out.trans (hK9.toBelowAt HL2.out.size (by simp))⟩
        exact EachEnd.nil
      exact EachEnd.nil
    exact EachEnd.nil
  exact EachEnd.nil
end
section
/-- The gaps of a loan: as they were if there were none, else a row of the call's own with one more element. -/
def Lent (w : World) (b : Nat) (ga : Option Addr) (gc : Nat) (gv : Value) (gs : List Gp) : Prop :=
  (ga = none ∧ gv = .slice none gs.length gc) ∨ ∃ g cap, ga ≠ none ∧ gv = .slice (some ⟨g, 0, none⟩) gs.length cap ∧ gs.length + 1 ≤ cap ∧ GRow w b (.slice (some ⟨g, 0, none⟩) (gs.length + 1) cap) (gs ++ [(-9, -9)])
theorem Lent.below {w w' : World} {b : Nat} {ga : Option Addr} {gc : Nat} {gv : Value} {gs : List Gp} (h : Lent w b ga gc gv gs) (hL : Below w.heap.size w w') : Lent w' b ga gc gv gs := by
  rcases h with h | ⟨g, cap, h1, h2, h3, h4⟩
  · exact .inl h
  · exact .inr ⟨g, cap, h1, h2, h3, h4.keep (S := []) ⟨hL.os, hL.tape, hL.output, hL.size, fun i hi _ => hL.block i hi⟩ (fun _ _ => by simp)⟩
theorem Lent.gaps {w : World} {b : Nat} {ga : Option Addr} {gc : Nat} {gv : Value} {gs : List Gp} (h : Lent w b ga gc gv gs) (hG : GapsAt w (.slice ga gs.length gc) gs) : GapsAt w gv gs := by
  rcases h with ⟨h1, h2⟩ | ⟨g, cap, h1, h2, h3, h4⟩
  · subst h1 h2; exact hG
  · subst h2
    obtain ⟨a, c, e, hA⟩ := h4.at
    injection e with e1 e2 e3
    subst e1 e3
    refine ⟨_, _, rfl, fun i hi => ?_⟩
    obtain ⟨b1, off, e4, h5, h6, h7⟩ := hA i (by simp; omega)
    refine ⟨b1, off, e4, h5, ?_, ?_⟩
    · rw [h6, List.getElem_append_left hi]
    · rw [h7, List.getElem_append_left hi]
theorem Lent.form {w : World} {b : Nat} {ga : Option Addr} {gc : Nat} {gv : Value} {gs : List Gp} (h : Lent w b ga gc gv gs) : ∃ a c, gv = .slice a gs.length c := by
  rcases h with ⟨h1, h2⟩ | ⟨g, cap, h1, h2, h3, h4⟩
  · exact ⟨_, _, h2⟩
  · exact ⟨_, _, h2⟩
theorem nil_gaps {w : World} {n gc : Nat} {gs : List Gp} (h : GapsAt w (.slice none n gc) gs) : gs = [] := by
  obtain ⟨a, c, e, hA⟩ := h
  injection e with e1 e2 e3
  subst e1
  cases gs with
  | nil => rfl
  | cons x l =>
    obtain ⟨b, off, e4, _⟩ := hA 0 (by simp)
    cases e4
set_option maxHeartbeats 8000000 in
set_option maxRecDepth 100000 in
theorem lend_none (u : Un) (gc : Nat) (w : World) :
    Calls Try.prog 11 #[u.val (.slice none u.gaps.length gc)] w fun e w' => e = .returned (u.val (.slice none u.gaps.length gc)) ∧ Below w.heap.size w w' := by
  obtain ⟨ki, nu, nm, sz, su, of, da, wy, an, me, gs⟩ := u
  simp only [Un.val]
  have HA := Lib.hid ((Blk.new w [.int .i64 ki, .int .i64 nu, .string nm, .int .i64 sz, .int .u32 su, .int .i64 of, .string da, .int .i64 wy, .int .i64 an, .bool me, .slice none gs.length gc] 25).alloc (Obj.cells #[.int .i64 0, .int .i64 0, .string ⟨#[]⟩, .int .i64 0, .int .u32 0, .int .i64 0, .string ⟨#[]⟩, .int .i64 0, .int .i64 0, .bool false, .slice none 0 0] 25))
  have HB := Lib.hid (Blk.new_at (w.alloc (Obj.cells #[.int .i64 ki, .int .i64 nu, .string nm, .int .i64 sz, .int .u32 su, .int .i64 of, .string da, .int .i64 wy, .int .i64 an, .bool me, .slice none gs.length gc] 25)) [.int .i64 0, .int .i64 0, .string ⟨#[]⟩, .int .i64 0, .int .u32 0, .int .i64 0, .string ⟨#[]⟩, .int .i64 0, .int .i64 0, .bool false, .slice none 0 0] 25 (w.heap.size + 1) (by simp))
  have HL := Lib.hid (((Below.refl w.heap.size w).alloc (Nat.le_refl _) (Obj.cells #[.int .i64 ki, .int .i64 nu, .string nm, .int .i64 sz, .int .u32 su, .int .i64 of, .string da, .int .i64 wy, .int .i64 an, .bool me, .slice none gs.length gc] 25)).alloc (by simp) (Obj.cells #[.int .i64 0, .int .i64 0, .string ⟨#[]⟩, .int .i64 0, .int .u32 0, .int .i64 0, .string ⟨#[]⟩, .int .i64 0, .int .i64 0, .bool false, .slice none 0 0] 25))
  have x0 := HA.out.cell 0
  have x1 := HA.out.cell 1
  have x2 := HA.out.cell 2
  have x3 := HA.out.cell 3
  have x4 := HA.out.cell 4
  have x5 := HA.out.cell 5
  have x6 := HA.out.cell 6
  have x7 := HA.out.cell 7
  have x8 := HA.out.cell 8
  have x9 := HA.out.cell 9
  have x10 := HA.out.cell 10
  simp only [List.getElem?_cons_zero, List.getElem?_cons_succ] at x0 x1 x2 x3 x4 x5 x6 x7 x8 x9 x10
  go_enter Try.func11, Try.ntmps11
  go_wp2_with (refine store_blk rfl _ _ _ rfl (w.heap.size + 1) 25 _ [.int .i64 ki, .int .i64 nu, .string nm, .int .i64 sz, .int .u32 su, .int .i64 of, .string da, .int .i64 wy, .int .i64 an, .bool me, .slice none gs.length gc] rfl rfl HB.out rfl (by kernel_rfl) (by kernel_rfl) ?_)
  intro w9 hU9 hK9
  go_wp2_with fail
  refine ret_cell rfl (w.heap.size + 1) 25 [.int .i64 ki, .int .i64 nu, .string nm, .int .i64 sz, .int .u32 su, .int .i64 of, .string da, .int .i64 wy, .int .i64 an, .bool me, .slice none gs.length gc] rfl hU9 Try.underlying25 rfl (by kernel_rfl) rfl ?_
  exact ⟨rfl, HL.out.trans (hK9.toBelowAt HL.out.size (by simp))⟩
theorem lend_any (u : Un) (ga : Option Addr) (gc : Nat) (w : World) (hn : u.gaps.length ≤ 200) (hG : GapsAt w (.slice ga u.gaps.length gc) u.gaps) :
    Calls Try.prog 11 #[u.val (.slice ga u.gaps.length gc)] w fun e w' => ∃ gv, e = .returned (u.val gv) ∧ Lent w' w.heap.size ga gc gv u.gaps ∧ Below w.heap.size w w' := by
  cases ga with
  | none => exact (lend_none u gc w).mono fun e w' h => ⟨_, h.1, .inl ⟨rfl, rfl⟩, h.2⟩
  | some p => exact (lend_some u p gc w hn hG).mono fun e w' ⟨g, cap, h1, h2, h3, h4⟩ => ⟨_, h1, .inr ⟨g, cap, by simp, rfl, h2, h3⟩, h4⟩
theorem gaps_eq_nil (n c : Nat) (W : World) : Sem.run Try.prog (binOp BinOp.eql 23 (.slice none n c) (.slice none 0 0)) W = .ok (.bool true) W := by kernel_rfl
theorem gaps_ne_nil (p : Addr) (n c : Nat) (W : World) : Sem.run Try.prog (binOp BinOp.eql 23 (.slice (some p) n c) (.slice none 0 0)) W = .ok (.bool false) W := by kernel_rfl
theorem gaps_cut (g n cap : Nat) (h : n < cap) (W : World) : Sem.run Try.prog (Instr.sliceAt 23 (.slice (some ⟨g, 0, none⟩) n cap) none (some (.int .i64 ((n : Int) + 1))) none) W = .ok (.slice (some ⟨g, 0, none⟩) (n + 1) cap) W := by
  obtain ⟨i0, hi, hz0, hz1, hz2⟩ := info_parts info_gap
  have h5 : (n : Int) + 1 ≤ (cap : Int) := by omega
  have h6 : (0 : Int) ≤ (n : Int) + 1 := by omega
  have h7 : ((n : Int) + 1).toNat = n + 1 := by omega
  have ht : Try.prog.underlying 23 = some (.slice 47) := Try.underlying23
  simp [Instr.sliceAt, Instr.slice, Instr.sliceBounds, run_underlying ht, sizeOf, typeInfo, hi, run_sliceBound, h5, h6, h7, Addr.add]
attribute [local go_sem] gaps_eq_nil gaps_ne_nil gaps_cut
set_option maxHeartbeats 8000000 in
set_option maxRecDepth 100000 in
theorem kept_any (u : Un) (ga : Option Addr) (gc : Nat) (gv : Value) (b : Nat) (w : World) (hn : u.gaps.length ≤ 200) (hG : GapsAt w (.slice ga u.gaps.length gc) u.gaps) (hP : Lent w b ga gc gv u.gaps) :
    Calls Try.prog 16 #[u.val gv, u.val (.slice ga u.gaps.length gc)] w fun e w' => e = .returned (.bool true) ∧ Below w.heap.size w w' := by
  have HS := Lib.hid (fun W h1 h2 => vSame_any u u gv (.slice ga u.gaps.length gc) W (by omega) (by omega) h1 h2)
  rw [show sameU u u = true from (sameU_iff u u).2 rfl] at HS
  have hL1 : Below w.heap.size w (w.alloc (Obj.cells (u.cells gv).toArray 25)) := (Below.refl w.heap.size w).alloc (Nat.le_refl _) _
  have hL2 : Below w.heap.size w ((w.alloc (Obj.cells (u.cells gv).toArray 25)).alloc (Obj.cells (u.cells (.slice ga u.gaps.length gc)).toArray 25)) := hL1.alloc (by simp) _
  have HA := Lib.hid ((Blk.new w (u.cells gv) 25).alloc (Obj.cells (u.cells (.slice ga u.gaps.length gc)).toArray 25))
  have HB := Lib.hid (Blk.new_at (w.alloc (Obj.cells (u.cells gv).toArray 25)) (u.cells (.slice ga u.gaps.length gc)) 25 (w.heap.size + 1) (by simp))
  have HP := Lib.hid (hP.below hL2); have HG := Lib.hid (hG.below hL2 (Nat.le_refl _)); have HL := Lib.hid hL2
  clear hP hG hL1 hL2
  obtain ⟨ki, nu, nm, sz, su, of, da, wy, an, me, gs⟩ := u
  simp only [Un.val, Un.cells] at HA HB HP HG HL HS hn ⊢
  obtain ⟨gav, gcv, hgv⟩ := HP.out.form
  subst hgv
  go_enter Try.func16, Try.ntmps16
  go_wp2_with fail
  refine gen_world (fun W => Blk W w.heap.size [.int .i64 ki, .int .i64 nu, .string nm, .int .i64 sz, .int .u32 su, .int .i64 of, .string da, .int .i64 wy, .int .i64 an, .bool me, .slice gav gs.length gcv] 25 ∧ Blk W (w.heap.size + 1) [.int .i64 ki, .int .i64 nu, .string nm, .int .i64 sz, .int .u32 su, .int .i64 of, .string da, .int .i64 wy, .int .i64 an, .bool me, .slice ga gs.length gc] 25 ∧ Lent W b ga gc (.slice gav gs.length gcv) gs ∧ GapsAt W (.slice ga gs.length gc) gs ∧ Below w.heap.size w W) ⟨HA.out, HB.out, HP.out, HG.out, HL.out⟩ ?_
  clear HA HB HP HG HL
  rintro v ⟨hA, hB, hP, hG, hL⟩
  have HL := Lib.hid hL; have HG := Lib.hid hG; have HQ := Lib.hid (hP.gaps hG)
  clear hL hG
  have x0 := cl_blk hA 0; have x1 := cl_blk hA 1; have x2 := cl_blk hA 2; have x3 := cl_blk hA 3; have x4 := cl_blk hA 4; have x5 := cl_blk hA 5; have x6 := cl_blk hA 6; have x7 := cl_blk hA 7; have x8 := cl_blk hA 8; have x9 := cl_blk hA 9; have x10 := cl_blk hA 10
  have y0 := cl_blk hB 0; have y1 := cl_blk hB 1; have y2 := cl_blk hB 2; have y3 := cl_blk hB 3; have y4 := cl_blk hB 4; have y5 := cl_blk hB 5; have y6 := cl_blk hB 6; have y7 := cl_blk hB 7; have y8 := cl_blk hB 8; have y9 := cl_blk hB 9; have y10 := cl_blk hB 10
  simp only [List.getElem?_cons_zero, List.getElem?_cons_succ] at x0 x1 x2 x3 x4 x5 x6 x7 x8 x9 x10 y0 y1 y2 y3 y4 y5 y6 y7 y8 y9 y10
  clear hA hB
  have HQ' := Lib.hid (fun (y : Cl v.heap.size v) => HQ.out.below y.below (Nat.le_refl _))
  have HG' := Lib.hid (fun (y : Cl v.heap.size v) => HG.out.below y.below (Nat.le_refl _))
  rcases hP with ⟨h1, h2⟩ | ⟨g, cap, h1, h2, h3, h4⟩
  · subst h1
    injection h2 with e1 e2 e3
    clear e2
    subst e1 e3
    refine region_calm v.heap.size (by kernel_rfl) (by kernel_rfl) ?_
    repeat (first | go_big_quiet_step ((go_at_call 19; exact cl_call _ (Nat.le_refl _) (HS.out _ (HQ'.out _) (HG'.out _)))) | (refine wpQuiet_step (fun K hK => ?_); go_simp; refine hK _ ?_; clear hK K))
    refine wpQuiet_nil ?_
    intro v2 hL
    go_wp2_with fail
    go_ret
    exact ⟨rfl, HL.out.trans (hL.mono HL.out.size)⟩
  · injection h2 with e1 e2 e3
    clear e2
    subst e1 e3
    have hq := (ownsRow_cap h4)
    have hA := h4.at
    obtain ⟨a0, c0, e0, hC⟩ := hA
    injection e0 with e0 e2 e3
    clear e2
    subst e0 e3
    obtain ⟨b1, off, e4, h5, h6, h7⟩ := hC gs.length (by simp)
    injection e4 with e4; injection e4 with e4 e5
    subst e4 e5
    have hr : (gs ++ [((-9 : Int), (-9 : Int))])[gs.length]'(by simp) = (-9, -9) := by simp
    rw [hr] at h6 h7
    have z0 : ∀ y : Cl v.heap.size v, y.val.cell? ⟨g, 0 + gs.length * 2, none⟩ = some (.int .i64 (-9)) := fun y => (y.below.cell (p := ⟨g, 0 + gs.length * 2, none⟩) h5).trans h6
    have z1 : ∀ y : Cl v.heap.size v, y.val.cell? ⟨g, 0 + gs.length * 2 + 1, none⟩ = some (.int .i64 (-9)) := fun y => (y.below.cell (p := ⟨g, 0 + gs.length * 2 + 1, none⟩) h5).trans h7
    have hw1 : IntKind.i64.wrap ((gs.length : Int) + 1) = (gs.length : Int) + 1 := IntWalk.i64_in _ (by omega)
    have k1 : (0 : Int) ≤ (gs.length : Int) + 1 := by omega
    have k2 : ((gs.length : Int) + 1).toNat = gs.length + 1 := by omega
    have k3 : (gs.length : Int) + 1 ≤ (gcv : Int) := by omega
    have k4 : gs.length < gcv := by omega
    have k5 : (gs.length : Int) < (gcv : Int) := by omega
    have k6 : (gs.length : Int) < (gs.length : Int) + 1 := by omega
    have k7 : 0 + gs.length * 2 = gs.length * 2 := by omega
    rw [k7] at z0 z1
    clear hr h6 h7 hC h4 hq h5
    cases ga with
    | none => exact absurd rfl h1
    | some p =>
    refine region_calm v.heap.size (by kernel_rfl) (by kernel_rfl) ?_
    repeat (first | go_big_quiet_step ((go_at_call 19; exact cl_call _ (Nat.le_refl _) (HS.out _ (HQ'.out _) (HG'.out _)))) | (refine wpQuiet_step (fun K hK => ?_); go_simp; refine hK _ ?_; clear hK K))
    refine wpQuiet_nil ?_
    intro v2 hL
    go_wp2_with fail
    go_ret
    exact ⟨rfl, HL.out.trans (hL.mono HL.out.size)⟩
end
section
theorem vPut_wide (u : Un) (gv : Value) (w : World) (hn : u.name.size ≤ 9223372036854775807) (hd : u.data.size ≤ 9223372036854775807) (hg : u.gaps.length ≤ 1000) (hi : intsU u) (hG : GapsAt w gv u.gaps) :
    Calls Try.prog 13 #[u.val gv] w fun e w' => e = .returned (.tuple #[strOf (putS u).1, .int .i64 (putS u).2]) ∧ Below w.heap.size w w' := by
  cases hv : validS u with
  | false => exact (vPut_out u gv w ⟨hn, hd, by omega⟩ hv hG).mono fun e w' h => ⟨by rw [h.1, putS, if_neg (by rw [hv]; exact Bool.false_ne_true)]; rfl, h.2⟩
  | true =>
    have h := valid_fine u hv
    exact vPut_any u gv w (by omega) (by omega) hg hi hG
set_option maxHeartbeats 8000000 in
set_option maxRecDepth 100000 in
theorem UnitsPuts_any (u : Un) (gv : Value) (w : World) (hG : GapsAt w gv u.gaps) (hi : intsU u) (hn : u.name.size ≤ 9223372036854775807) (hd : u.data.size ≤ 9223372036854775807) (hl : u.gaps.length ≤ 9223372036854775807) :
    Calls Try.prog 3 #[u.val gv] w fun e w' => e = .returned (.bool true) ∧ Below w.heap.size w w' := by
  obtain ⟨ga, gc, hgv, -⟩ := id hG
  subst hgv
  have HGR := Lib.hid (fun W (h : GapsAt W (.slice ga u.gaps.length gc) u.gaps) => great_any u _ W hl h)
  have HX0 := Lib.hid (Blk.new w (u.cells (.slice ga u.gaps.length gc)) 25)
  have HL0 := Lib.hid ((Below.refl w.heap.size w).alloc (Nat.le_refl _) (Obj.cells (u.cells (.slice ga u.gaps.length gc)).toArray 25))
  have HG0 := Lib.hid (hG.below ((Below.refl w.heap.size w).alloc (Nat.le_refl _) (Obj.cells (u.cells (.slice ga u.gaps.length gc)).toArray 25)) (Nat.le_refl _))
  have HLE := Lib.hid (fun W h1 h2 => lend_any u ga gc W h1 h2)
  have HPU := Lib.hid (fun gv W h1 (h2 : GapsAt W gv u.gaps) => uPut_wide u gv W hn hd h1 hi h2)
  have HPV := Lib.hid (fun gv W h1 (h2 : GapsAt W gv u.gaps) => vPut_wide u gv W hn hd h1 hi h2)
  have HVU := Lib.hid (fun gv W (hg : u.gaps.length ≤ 1000) (h : GapsAt W gv u.gaps) => uValid_any u gv W ⟨hn, hd, by omega⟩ h)
  have HVV := Lib.hid (fun gv W (hg : u.gaps.length ≤ 1000) (h : GapsAt W gv u.gaps) => vValid_any u gv W ⟨hn, hd, by omega⟩ h)
  have HKP := Lib.hid (fun gv b W h1 h2 h3 => kept_any u ga gc gv b W h1 h2 h3)
  clear hG hi hn hd hl
  obtain ⟨q, hq⟩ : ∃ q, q = validS u := ⟨_, rfl⟩
  obtain ⟨L, P, hP⟩ : ∃ L P, (L, P) = putS u := ⟨_, _, rfl⟩
  rw [← hq] at HVU HVV
  rw [← hP] at HPU HPV
  clear hq hP
  obtain ⟨ki, nu, nm, sz, su, of, da, wy, an, me, gs⟩ := u
  simp only [Un.cells, Un.val] at HGR HX0 HL0 HG0 HLE HPU HPV HVU HVV HKP ⊢
  go_enter Try.func3, Try.ntmps3
  go_wp2_with fail
  refine (shown37_any _).mono ?_
  rintro e w1 ⟨rfl, hL1⟩
  have HX1 := Lib.hid (HX0.out.below hL1 HX0.out.lt)
  have HG1 := Lib.hid (HG0.out.below hL1 (Nat.le_refl _))
  have HL1 := Lib.hid (HL0.out.trans (hL1.mono HL0.out.size)); clear hL1 HL0 HX0 HG0
  have x0 := HX1.out.cell 0
  have x1 := HX1.out.cell 1
  have x2 := HX1.out.cell 2
  have x3 := HX1.out.cell 3
  have x4 := HX1.out.cell 4
  have x5 := HX1.out.cell 5
  have x6 := HX1.out.cell 6
  have x7 := HX1.out.cell 7
  have x8 := HX1.out.cell 8
  have x9 := HX1.out.cell 9
  have x10 := HX1.out.cell 10
  simp only [List.getElem?_cons_zero, List.getElem?_cons_succ] at x0 x1 x2 x3 x4 x5 x6 x7 x8 x9 x10
  go_wp2_with fail
  refine (HGR.out _ HG1.out).mono ?_
  rintro e w2 ⟨bg, rfl, hbg, hL2⟩
  have HX2 := Lib.hid (HX1.out.below hL2 HX1.out.lt)
  have HG2 := Lib.hid (HG1.out.below hL2 (Nat.le_refl _))
  have HL2 := Lib.hid (HL1.out.trans (hL2.mono HL1.out.size)); clear hL2 HL1 HX1 HG1 x0 x1 x2 x3 x4 x5 x6 x7 x8 x9 x10
  cases bg
  · have hgs := hbg rfl
    have HGS := Lib.hid hgs
    have HGT := Lib.hid (show gs.length ≤ 1000 by omega)
    clear hbg hgs
    have x0 := HX2.out.cell 0
    have x1 := HX2.out.cell 1
    have x2 := HX2.out.cell 2
    have x3 := HX2.out.cell 3
    have x4 := HX2.out.cell 4
    have x5 := HX2.out.cell 5
    have x6 := HX2.out.cell 6
    have x7 := HX2.out.cell 7
    have x8 := HX2.out.cell 8
    have x9 := HX2.out.cell 9
    have x10 := HX2.out.cell 10
    simp only [List.getElem?_cons_zero, List.getElem?_cons_succ] at x0 x1 x2 x3 x4 x5 x6 x7 x8 x9 x10
    go_wp2_with fail
    refine (HLE.out _ HGS.out HG2.out).mono ?_
    rintro e w3 ⟨gv, rfl, hP3, hL3⟩
    have HX3 := Lib.hid (HX2.out.below hL3 HX2.out.lt)
    have HG3 := Lib.hid (HG2.out.below hL3 (Nat.le_refl _))
    have HL3 := Lib.hid (HL2.out.trans (hL3.mono HL2.out.size)); clear hL3 HL2 HX2 HG2 x0 x1 x2 x3 x4 x5 x6 x7 x8 x9 x10
    obtain ⟨gav, gcv, hgv⟩ := hP3.form
    subst hgv
    have HP3 := Lib.hid hP3; clear hP3
    obtain ⟨b3, hb3⟩ : ∃ b, b = w2.heap.size := ⟨_, rfl⟩
    rw [← hb3] at HP3
    clear hb3
    have hA3 : Below w3.heap.size w3 (w3.alloc (Obj.cells #[.int .i64 ki, .int .i64 nu, .string nm, .int .i64 sz, .int .u32 su, .int .i64 of, .string da, .int .i64 wy, .int .i64 an, .bool me, .slice gav gs.length gcv] 25)) := (Below.refl _ w3).alloc (Nat.le_refl _) _
    obtain ⟨h1, hh1⟩ : ∃ h, h = w3.heap.size := ⟨_, rfl⟩
    go_upto_region 6 with fail
    rw [← hh1]
    refine gen_world (fun W => Blk W w.heap.size [.int .i64 ki, .int .i64 nu, .string nm, .int .i64 sz, .int .u32 su, .int .i64 of, .string da, .int .i64 wy, .int .i64 an, .bool me, .slice ga gs.length gc] 25 ∧ Blk W h1 [.int .i64 ki, .int .i64 nu, .string nm, .int .i64 sz, .int .u32 su, .int .i64 of, .string da, .int .i64 wy, .int .i64 an, .bool me, .slice gav gs.length gcv] 25 ∧ GapsAt W (.slice ga gs.length gc) gs ∧ Lent W b3 ga gc (.slice gav gs.length gcv) gs ∧ Below w.heap.size w W) ⟨HX3.out.alloc _, by rw [hh1]; exact Blk.new w3 _ _, HG3.out.below hA3 (Nat.le_refl _), HP3.out.below hA3, HL3.out.alloc HL3.out.size _⟩ ?_
    clear HX3 HG3 HP3 HL3 hh1 hA3
    rintro w4 ⟨hX4, hB4, hG4, hP4, hL4⟩
    have HQ4 := Lib.hid (hP4.gaps hG4)
    have HX4 := Lib.hid hX4; have HB4 := Lib.hid hB4; have HG4 := Lib.hid hG4; have HP4 := Lib.hid hP4; have HL4 := Lib.hid hL4
    clear hX4 hB4 hG4 hP4 hL4
    have y0 := HB4.out.cell 0
    have y1 := HB4.out.cell 1
    have y2 := HB4.out.cell 2
    have y3 := HB4.out.cell 3
    have y4 := HB4.out.cell 4
    have y5 := HB4.out.cell 5
    have y6 := HB4.out.cell 6
    have y7 := HB4.out.cell 7
    have y8 := HB4.out.cell 8
    have y9 := HB4.out.cell 9
    have y10 := HB4.out.cell 10
    simp only [List.getElem?_cons_zero, List.getElem?_cons_succ] at y0 y1 y2 y3 y4 y5 y6 y7 y8 y9 y10
    go_wp2_with fail
    refine (HPU.out _ _ HGT.out HQ4.out).mono ?_
    rintro e w5 ⟨rfl, hL5⟩
    have HX5 := Lib.hid (HX4.out.below hL5 HX4.out.lt)
    have HB5 := Lib.hid (HB4.out.below hL5 HB4.out.lt)
    have HG5 := Lib.hid (HG4.out.below hL5 (Nat.le_refl _))
    have HP5 := Lib.hid (HP4.out.below hL5)
    have HQ5 := Lib.hid (HQ4.out.below hL5 (Nat.le_refl _))
    have HL5 := Lib.hid (HL4.out.trans (hL5.mono HL4.out.size)); clear hL5 HL4 HX4 HB4 HG4 HP4 HQ4 y0 y1 y2 y3 y4 y5 y6 y7 y8 y9 y10
    have x0 := HX5.out.cell 0
    have x1 := HX5.out.cell 1
    have x2 := HX5.out.cell 2
    have x3 := HX5.out.cell 3
    have x4 := HX5.out.cell 4
    have x5 := HX5.out.cell 5
    have x6 := HX5.out.cell 6
    have x7 := HX5.out.cell 7
    have x8 := HX5.out.cell 8
    have x9 := HX5.out.cell 9
    have x10 := HX5.out.cell 10
    simp only [List.getElem?_cons_zero, List.getElem?_cons_succ] at x0 x1 x2 x3 x4 x5 x6 x7 x8 x9 x10
    simp only [strOf]
    go_wp2_with fail
    refine (HPV.out _ _ HGT.out HG5.out).mono ?_
    rintro e w6 ⟨rfl, hL6⟩
    have HX6 := Lib.hid (HX5.out.below hL6 HX5.out.lt)
    have HB6 := Lib.hid (HB5.out.below hL6 HB5.out.lt)
    have HG6 := Lib.hid (HG5.out.below hL6 (Nat.le_refl _))
    have HP6 := Lib.hid (HP5.out.below hL6)
    have HQ6 := Lib.hid (HQ5.out.below hL6 (Nat.le_refl _))
    have HL6 := Lib.hid (HL5.out.trans (hL6.mono HL5.out.size)); clear hL6 HL5 HX5 HB5 HG5 HP5 HQ5 x0 x1 x2 x3 x4 x5 x6 x7 x8 x9 x10
    simp only [strOf]
    go_upto_region 8 with fail
    have x0 := cl_blk HX6.out 0
    have x1 := cl_blk HX6.out 1
    have x2 := cl_blk HX6.out 2
    have x3 := cl_blk HX6.out 3
    have x4 := cl_blk HX6.out 4
    have x5 := cl_blk HX6.out 5
    have x6 := cl_blk HX6.out 6
    have x7 := cl_blk HX6.out 7
    have x8 := cl_blk HX6.out 8
    have x9 := cl_blk HX6.out 9
    have x10 := cl_blk HX6.out 10
    simp only [List.getElem?_cons_zero, List.getElem?_cons_succ] at x0 x1 x2 x3 x4 x5 x6 x7 x8 x9 x10
    have y0 := cl_blk HB6.out 0
    have y1 := cl_blk HB6.out 1
    have y2 := cl_blk HB6.out 2
    have y3 := cl_blk HB6.out 3
    have y4 := cl_blk HB6.out 4
    have y5 := cl_blk HB6.out 5
    have y6 := cl_blk HB6.out 6
    have y7 := cl_blk HB6.out 7
    have y8 := cl_blk HB6.out 8
    have y9 := cl_blk HB6.out 9
    have y10 := cl_blk HB6.out 10
    simp only [List.getElem?_cons_zero, List.getElem?_cons_succ] at y0 y1 y2 y3 y4 y5 y6 y7 y8 y9 y10
    have HG' := Lib.hid (fun (z : Cl w6.heap.size w6) => HG6.out.below z.below (Nat.le_refl _))
    have HQ' := Lib.hid (fun (z : Cl w6.heap.size w6) => HQ6.out.below z.below (Nat.le_refl _))
    have HP' := Lib.hid (fun (z : Cl w6.heap.size w6) => HP6.out.below z.below)
    refine region_calm w6.heap.size (by kernel_rfl) (by kernel_rfl) ?_
    repeat (go_big_quiet_step ((first | (go_at_call 14; exact cl_call _ (Nat.le_refl _) (HVU.out _ _ HGT.out (HQ'.out _))) | (go_at_call 15; exact cl_call _ (Nat.le_refl _) (HVV.out _ _ HGT.out (HG'.out _))) | (go_at_call 16; exact cl_call _ (Nat.le_refl _) (HKP.out _ _ _ HGS.out (HG'.out _) (HP'.out _))))))
    refine wpQuiet_nil ?_
    intro w7 hL
    go_wp2_with fail
    go_ret
    exact ⟨rfl, HL6.out.trans (hL.mono HL6.out.size)⟩
  · go_wp2_with fail
    go_ret
    exact ⟨rfl, HL2.out⟩
end
end Go.Proofs.Ytkpgenmlpkfokaa
