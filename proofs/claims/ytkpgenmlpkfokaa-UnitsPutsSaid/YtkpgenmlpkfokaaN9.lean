/- What is proved here: walks of the functions that write the fields of a kind of unit. -/
import Derived.Test.YtkpgenmlpkfokaaN8
import Derived.Test.YtkpgenmlpkfokaaStep
set_option linter.unusedVariables false
set_option linter.unusedSimpArgs false
namespace Go.Proofs.Ytkpgenmlpkfokaa
open Go.RowKit
def gapB (g : Gp) : List UInt8 := beN 2 g.1 ++ beN 2 g.2
def bodyU (k : Nat) (u : Un) : List UInt8 :=
  match k with
  | 1 => beN 2 u.size ++ u.name.data.toList
  | 2 => beN 2 u.off ++ u.data.data.toList
  | 3 => beN 1 u.why ++ beN 2 u.size ++ beN 4 u.sum
  | 4 => beN 1 u.why
  | 5 => (if u.meta_ then 1 else 0) :: u.gaps.flatMap gapB
  | _ => beN 1 u.ans
/-- The numbers of a unit are what an int holds. -/
def intsU (u : Un) : Prop := -9223372036854775808 ≤ u.kind ∧ u.kind ≤ 9223372036854775807 ∧ -9223372036854775808 ≤ u.num ∧ u.num ≤ 9223372036854775807 ∧ -9223372036854775808 ≤ u.size ∧ u.size ≤ 9223372036854775807 ∧ 0 ≤ u.sum ∧ u.sum ≤ 4294967295 ∧
  -9223372036854775808 ≤ u.off ∧ u.off ≤ 9223372036854775807 ∧ -9223372036854775808 ≤ u.why ∧ u.why ≤ 9223372036854775807 ∧ -9223372036854775808 ≤ u.ans ∧ u.ans ≤ 9223372036854775807 ∧ ∀ i (h : i < u.gaps.length), -9223372036854775808 ≤ (u.gaps[i]).1 ∧ (u.gaps[i]).1 ≤ 9223372036854775807 ∧ -9223372036854775808 ≤ (u.gaps[i]).2 ∧ (u.gaps[i]).2 ≤ 9223372036854775807
theorem ubytes_new (n : Int) (m : Nat) (w : World) (hm : m ≤ 8) (h1 : -9223372036854775808 ≤ n) (h2 : n ≤ 9223372036854775807) :
    Calls Try.prog 24 #[.int .i64 n, .int .i64 (m : Int)] w fun e w' => ∃ v', e = .returned v' ∧ (Row w' w.heap.size v' (beN m n) ∧ Below w.heap.size w w') := ubytes_any n m w hm h1 h2
theorem put_end {w v w5 w7 : World} {v5 : Value} {xs : List UInt8} (hL : Below w.heap.size w v) (hL5 : Below v.heap.size v.drew w5) (hR5 : Row w5 v.heap.size v5 xs) (hK7 : Keep v5.ownBlock.toList w5 w7) : Below w.heap.size w w7 :=
  hL.trans ((((below_quiet v 1).1.trans hL5).trans (hK7.toBelowAt hL5.size (fun i hi => by rw [Option.mem_toList] at hi; exact (row_lt hR5 i hi).1))).mono hL.size)
set_option maxHeartbeats 4000000 in
set_option maxRecDepth 100000 in
theorem put1_any (u : Un) (gv : Value) (w : World) (hs : smallU u) (hi : intsU u) (hG : GapsAt w gv u.gaps) : Calls Try.prog 41 #[u.val gv] w fun e w' => ∃ v', e = .returned v' ∧ Row w' w.heap.size v' (bodyU 1 u) ∧ Below w.heap.size w w' := by
  have HA := Lib.hid (Blk.new w (u.cells gv) 25)
  have HL := Lib.hid ((Below.refl w.heap.size w).alloc (Nat.le_refl _) (Obj.cells (u.cells gv).toArray 25))
  obtain ⟨ki, nu, nm, sz, su, of, da, wy, an, me, gs⟩ := u
  obtain ⟨hs1, hs2, hs3⟩ := hs
  obtain ⟨-, -, -, -, hi5, hi6, hi7, hi8, hi9, hi10, -⟩ := hi
  simp only [Un.cells, Un.val, bodyU] at HA HL hs1 hs2 hi5 hi6 hi7 hi8 hi9 hi10 ⊢
  have HBY := Lib.hid (fun W => ubytes_new sz 2 W (by omega) hi5 hi6)
  clear hG hs3
  go_enter Try.func41, Try.ntmps41
  go_wp2_with fail
  refine gen_world (fun w' => Blk w' w.heap.size _ 25 ∧ Below w.heap.size w w') ⟨HA.out, HL.out⟩ ?_
  clear HA HL
  rintro v ⟨hA, hL⟩
  have HA := Lib.hid hA; have HL := Lib.hid hL
  have x2 := hA.cell 2
  have x3 := hA.cell 3
  simp only [List.getElem?_cons_zero, List.getElem?_cons_succ] at x2 x3
  clear hA hL
  go_region_law (first | (refine step_call rfl 24 _ _ rfl #[.int .i64 sz, .int .i64 2] (by kernel_rfl) _ (HBY.out _) ?_; rintro v5 w5 ⟨hR5, hL5⟩; have y2 := (hL5.cell (p := ⟨w.heap.size, 2, none⟩) HA.out.lt).trans x2) | (refine step_append_string rfl _ _ rfl v.heap.size _ _ rfl hR5 nm rfl (by rw [beN_length]; omega) hL5.size ?_; intro v7 w7 hR7 hK7))
  all_goals
    go_wp2_with fail
    go_ret
    exact ⟨_, rfl, row_mono hR7 HL.out.size, put_end HL.out hL5 hR5 hK7⟩
set_option maxHeartbeats 4000000 in
set_option maxRecDepth 100000 in
theorem put2_any (u : Un) (gv : Value) (w : World) (hs : smallU u) (hi : intsU u) (hG : GapsAt w gv u.gaps) : Calls Try.prog 46 #[u.val gv] w fun e w' => ∃ v', e = .returned v' ∧ Row w' w.heap.size v' (bodyU 2 u) ∧ Below w.heap.size w w' := by
  have HA := Lib.hid (Blk.new w (u.cells gv) 25)
  have HL := Lib.hid ((Below.refl w.heap.size w).alloc (Nat.le_refl _) (Obj.cells (u.cells gv).toArray 25))
  obtain ⟨ki, nu, nm, sz, su, of, da, wy, an, me, gs⟩ := u
  obtain ⟨hs1, hs2, hs3⟩ := hs
  obtain ⟨-, -, -, -, hi5, hi6, hi7, hi8, hi9, hi10, -⟩ := hi
  simp only [Un.cells, Un.val, bodyU] at HA HL hs1 hs2 hi5 hi6 hi7 hi8 hi9 hi10 ⊢
  have HBY := Lib.hid (fun W => ubytes_new of 2 W (by omega) hi9 hi10)
  clear hG hs3
  go_enter Try.func46, Try.ntmps46
  go_wp2_with fail
  refine gen_world (fun w' => Blk w' w.heap.size _ 25 ∧ Below w.heap.size w w') ⟨HA.out, HL.out⟩ ?_
  clear HA HL
  rintro v ⟨hA, hL⟩
  have HA := Lib.hid hA; have HL := Lib.hid hL
  have x2 := hA.cell 6
  have x3 := hA.cell 5
  simp only [List.getElem?_cons_zero, List.getElem?_cons_succ] at x2 x3
  clear hA hL
  go_region_law (first | (refine step_call rfl 24 _ _ rfl #[.int .i64 of, .int .i64 2] (by kernel_rfl) _ (HBY.out _) ?_; rintro v5 w5 ⟨hR5, hL5⟩; have y2 := (hL5.cell (p := ⟨w.heap.size, 6, none⟩) HA.out.lt).trans x2) | (refine step_append_string rfl _ _ rfl v.heap.size _ _ rfl hR5 da rfl (by rw [beN_length]; omega) hL5.size ?_; intro v7 w7 hR7 hK7))
  all_goals
    go_wp2_with fail
    go_ret
    exact ⟨_, rfl, row_mono hR7 HL.out.size, put_end HL.out hL5 hR5 hK7⟩
set_option maxHeartbeats 4000000 in
set_option maxRecDepth 100000 in
theorem put4_any (u : Un) (gv : Value) (w : World) (hs : smallU u) (hi : intsU u) (hG : GapsAt w gv u.gaps) : Calls Try.prog 55 #[u.val gv] w fun e w' => ∃ v', e = .returned v' ∧ Row w' w.heap.size v' (bodyU 4 u) ∧ Below w.heap.size w w' := by
  have HA := Lib.hid (Blk.new w (u.cells gv) 25)
  have HL := Lib.hid ((Below.refl w.heap.size w).alloc (Nat.le_refl _) (Obj.cells (u.cells gv).toArray 25))
  obtain ⟨ki, nu, nm, sz, su, of, da, wy, an, me, gs⟩ := u
  obtain ⟨-, -, -, -, hi5, hi6, hi7, hi8, hi9, hi10, hi11, hi12, hi13, hi14, -⟩ := hi
  simp only [Un.cells, Un.val, bodyU] at HA HL hi5 hi6 hi7 hi8 hi9 hi10 hi11 hi12 hi13 hi14 ⊢
  have HBY := Lib.hid (fun W => ubytes_any wy 1 W (by omega) hi11 hi12)
  have x0 := HA.out.cell 0
  have x1 := HA.out.cell 1
  have x2 := HA.out.cell 2
  have x3 := HA.out.cell 3
  have x4 := HA.out.cell 4
  have x5 := HA.out.cell 5
  have x6 := HA.out.cell 6
  have x7 := HA.out.cell 7
  have x8 := HA.out.cell 8
  have x9 := HA.out.cell 9
  have x10 := HA.out.cell 10
  simp only [List.getElem?_cons_zero, List.getElem?_cons_succ] at x0 x1 x2 x3 x4 x5 x6 x7 x8 x9 x10
  clear hG hs
  go_enter Try.func55, Try.ntmps55
  go_wp2_with fail
  refine (HBY.out _).mono ?_
  rintro e w1 ⟨v1, rfl, hR, hL⟩
  have HR := Lib.hid hR
  have HL1 := Lib.hid (HL.out.trans (hL.mono (by simp)))
  clear hR hL
  go_wp2_with fail
  go_ret
  exact ⟨_, rfl, row_mono HR.out (by simp), HL1.out⟩
set_option maxHeartbeats 4000000 in
set_option maxRecDepth 100000 in
theorem put6_any (u : Un) (gv : Value) (w : World) (hs : smallU u) (hi : intsU u) (hG : GapsAt w gv u.gaps) : Calls Try.prog 64 #[u.val gv] w fun e w' => ∃ v', e = .returned v' ∧ Row w' w.heap.size v' (bodyU 6 u) ∧ Below w.heap.size w w' := by
  have HA := Lib.hid (Blk.new w (u.cells gv) 25)
  have HL := Lib.hid ((Below.refl w.heap.size w).alloc (Nat.le_refl _) (Obj.cells (u.cells gv).toArray 25))
  obtain ⟨ki, nu, nm, sz, su, of, da, wy, an, me, gs⟩ := u
  obtain ⟨-, -, -, -, hi5, hi6, hi7, hi8, hi9, hi10, hi11, hi12, hi13, hi14, -⟩ := hi
  simp only [Un.cells, Un.val, bodyU] at HA HL hi5 hi6 hi7 hi8 hi9 hi10 hi11 hi12 hi13 hi14 ⊢
  have HBY := Lib.hid (fun W => ubytes_any an 1 W (by omega) hi13 hi14)
  have x0 := HA.out.cell 0
  have x1 := HA.out.cell 1
  have x2 := HA.out.cell 2
  have x3 := HA.out.cell 3
  have x4 := HA.out.cell 4
  have x5 := HA.out.cell 5
  have x6 := HA.out.cell 6
  have x7 := HA.out.cell 7
  have x8 := HA.out.cell 8
  have x9 := HA.out.cell 9
  have x10 := HA.out.cell 10
  simp only [List.getElem?_cons_zero, List.getElem?_cons_succ] at x0 x1 x2 x3 x4 x5 x6 x7 x8 x9 x10
  clear hG hs
  go_enter Try.func64, Try.ntmps64
  go_wp2_with fail
  refine (HBY.out _).mono ?_
  rintro e w1 ⟨v1, rfl, hR, hL⟩
  have HR := Lib.hid hR
  have HL1 := Lib.hid (HL.out.trans (hL.mono (by simp)))
  clear hR hL
  go_wp2_with fail
  go_ret
  exact ⟨_, rfl, row_mono HR.out (by simp), HL1.out⟩
end Go.Proofs.Ytkpgenmlpkfokaa
