/- What is proved here: the reference's Valid of any unit; Put of units that are not valid. -/
import Derived.Test.YtkpgenmlpkfokaaN15
import Derived.Test.YtkpgenmlpkfokaaN16
set_option linter.unusedVariables false
set_option linter.unusedSimpArgs false
namespace Go.Proofs.Ytkpgenmlpkfokaa
open Go.RowKit
set_option maxHeartbeats 8000000 in
set_option maxRecDepth 100000 in
theorem vValid_out (u : Un) (gv : Value) (w : World) (h : ¬ (1 ≤ u.kind ∧ u.kind ≤ 6) ∨ ¬ (0 ≤ u.num ∧ u.num ≤ 65535)) : Calls Try.prog 15 #[u.val gv] w fun e w' => e = .returned (.bool false) ∧ Below w.heap.size w w' := by
  have HA := Lib.hid (Blk.new w (u.cells gv) 25)
  obtain ⟨ki, nu, nm, sz, su, of, da, wy, an, me, gs⟩ := u
  simp only [Un.cells, Un.val] at HA h ⊢
  have x0 := HA.out.cell 0
  have x1 := HA.out.cell 1
  have x2 := HA.out.cell 2
  have x3 := HA.out.cell 3
  have x4 := HA.out.cell 4
  have x5 := HA.out.cell 5
  have x6 := HA.out.cell 6
  have x7 := HA.out.cell 7
  have x8 := HA.out.cell 8
  have x9 := HA.out.cell 9
  have x10 := HA.out.cell 10
  simp only [List.getElem?_cons_zero, List.getElem?_cons_succ] at x0 x1 x2 x3 x4 x5 x6 x7 x8 x9 x10
  have H2 := Lib.hid (fun W => vwithin_any nu 0 65535 W)
  by_cases h2 : 0 ≤ nu ∧ nu ≤ 65535
  · have h1 : ¬ (1 ≤ ki ∧ ki ≤ 6) := by rcases h with h | h; exact h; exact absurd h2 h
    rw [decide_eq_true h2] at H2
    have k1 : (ki == 1) = false := beq_eq_false_iff_ne.2 (by omega)
    have k2 : (ki == 2) = false := beq_eq_false_iff_ne.2 (by omega)
    have k3 : (ki == 3) = false := beq_eq_false_iff_ne.2 (by omega)
    have k4 : (ki == 4) = false := beq_eq_false_iff_ne.2 (by omega)
    have k5 : (ki == 5) = false := beq_eq_false_iff_ne.2 (by omega)
    have k6 : (ki == 6) = false := beq_eq_false_iff_ne.2 (by omega)
    clear h h1 h2
    go_enter Try.func15, Try.ntmps15
    go_wp2_with fail
    refine (H2.out _).mono ?_
    rintro e _ ⟨rfl, rfl⟩
    go_wp2_with fail
    go_ret
    exact ⟨rfl, ((Below.refl _ _).alloc (Nat.le_refl _) _).alloc (by simp) _⟩
  · rw [decide_eq_false h2] at H2
    clear h h2
    go_enter Try.func15, Try.ntmps15
    go_wp2_with fail
    refine (H2.out _).mono ?_
    rintro e _ ⟨rfl, rfl⟩
    go_wp2_with fail
    go_ret
    exact ⟨rfl, (Below.refl _ _).alloc (Nat.le_refl _) _⟩
theorem vValid_any (u : Un) (gv : Value) (w : World) (hs : wideU u) (hG : GapsAt w gv u.gaps) : Calls Try.prog 15 #[u.val gv] w fun e w' => e = .returned (.bool (validS u)) ∧ Below w.heap.size w w' := by
  by_cases h1 : 1 ≤ u.kind ∧ u.kind ≤ 6
  case neg => exact (vValid_out u gv w (.inl h1)).mono fun e w' h => ⟨by rw [h.1, validS, decide_eq_false h1]; simp, h.2⟩
  by_cases h2 : 0 ≤ u.num ∧ u.num ≤ 65535
  case neg => exact (vValid_out u gv w (.inr h2)).mono fun e w' h => ⟨by rw [h.1, validS, decide_eq_false h2]; simp, h.2⟩
  have fin : ∀ (k : Nat), u.kind = k → Calls Try.prog 15 #[u.val gv] w (fun e w' => e = .returned (.bool (validU k u && sameU (fullU k u) u)) ∧ Below w.heap.size w w') → Calls Try.prog 15 #[u.val gv] w (fun e w' => e = .returned (.bool (validS u)) ∧ Below w.heap.size w w') := fun k hk hc =>
    hc.mono fun e w' h => ⟨by rw [h.1, validS, decide_eq_true h1, decide_eq_true h2, hk, Bool.and_comm]; simp, h.2⟩
  rcases (by omega : u.kind = 1 ∨ u.kind = 2 ∨ u.kind = 3 ∨ u.kind = 4 ∨ u.kind = 5 ∨ u.kind = 6) with h | h | h | h | h | h
  · exact fin 1 h (vValid1 u gv w h h2 hs hG)
  · exact fin 2 h (vValid2 u gv w h h2 hs hG)
  · exact fin 3 h (vValid3 u gv w h h2 hs hG)
  · exact fin 4 h (vValid4 u gv w h h2 hs hG)
  · exact fin 5 h (vValid5 u gv w h h2 hs hG)
  · exact fin 6 h (vValid6 u gv w h h2 hs hG)
def putS (u : Un) : List UInt8 × Int := if validS u = true then (encU u, 0) else ([], 2)
set_option maxHeartbeats 8000000 in
set_option maxRecDepth 100000 in
theorem uPut_out (u : Un) (gv : Value) (w : World) (hs : wideU u) (hv : validS u = false) (hG : GapsAt w gv u.gaps) :
    Calls Try.prog 12 #[u.val gv] w fun e w' => e = .returned (.tuple #[.string ⟨#[]⟩, .int .i64 2]) ∧ Below w.heap.size w w' := by
  have HA := Lib.hid (Blk.new w (u.cells gv) 25)
  have HL := Lib.hid ((Below.refl w.heap.size w).alloc (Nat.le_refl _) (Obj.cells (u.cells gv).toArray 25))
  have HV := Lib.hid (uValid_any u gv (w.alloc (Obj.cells (u.cells gv).toArray 25)) hs (hG.below HL.out (Nat.le_refl _)))
  rw [hv] at HV
  obtain ⟨ki, nu, nm, sz, su, of, da, wy, an, me, gs⟩ := u
  simp only [Un.cells, Un.val] at HA HL HV ⊢
  clear hs hv hG
  have x0 := HA.out.cell 0
  have x1 := HA.out.cell 1
  have x2 := HA.out.cell 2
  have x3 := HA.out.cell 3
  have x4 := HA.out.cell 4
  have x5 := HA.out.cell 5
  have x6 := HA.out.cell 6
  have x7 := HA.out.cell 7
  have x8 := HA.out.cell 8
  have x9 := HA.out.cell 9
  have x10 := HA.out.cell 10
  simp only [List.getElem?_cons_zero, List.getElem?_cons_succ] at x0 x1 x2 x3 x4 x5 x6 x7 x8 x9 x10
  go_enter Try.func12, Try.ntmps12
  go_wp2_with fail
  refine HV.out.mono ?_
  rintro e w1 ⟨rfl, hL1⟩
  replace HL := Lib.hid (HL.out.trans (hL1.mono (by simp)))
  clear hL1 HV
  go_wp2_with fail
  go_ret2
  exact ⟨rfl, HL.out⟩
set_option maxHeartbeats 8000000 in
set_option maxRecDepth 100000 in
theorem vPut_out (u : Un) (gv : Value) (w : World) (hs : wideU u) (hv : validS u = false) (hG : GapsAt w gv u.gaps) :
    Calls Try.prog 13 #[u.val gv] w fun e w' => e = .returned (.tuple #[.string ⟨#[]⟩, .int .i64 2]) ∧ Below w.heap.size w w' := by
  have HA := Lib.hid (Blk.new w (u.cells gv) 25)
  have HL := Lib.hid ((Below.refl w.heap.size w).alloc (Nat.le_refl _) (Obj.cells (u.cells gv).toArray 25))
  have HV := Lib.hid (vValid_any u gv (w.alloc (Obj.cells (u.cells gv).toArray 25)) hs (hG.below HL.out (Nat.le_refl _)))
  rw [hv] at HV
  obtain ⟨ki, nu, nm, sz, su, of, da, wy, an, me, gs⟩ := u
  simp only [Un.cells, Un.val] at HA HL HV ⊢
  clear hs hv hG
  have x0 := HA.out.cell 0
  have x1 := HA.out.cell 1
  have x2 := HA.out.cell 2
  have x3 := HA.out.cell 3
  have x4 := HA.out.cell 4
  have x5 := HA.out.cell 5
  have x6 := HA.out.cell 6
  have x7 := HA.out.cell 7
  have x8 := HA.out.cell 8
  have x9 := HA.out.cell 9
  have x10 := HA.out.cell 10
  simp only [List.getElem?_cons_zero, List.getElem?_cons_succ] at x0 x1 x2 x3 x4 x5 x6 x7 x8 x9 x10
  go_enter Try.func13, Try.ntmps13
  go_wp2_with fail
  refine HV.out.mono ?_
  rintro e w1 ⟨rfl, hL1⟩
  replace HL := Lib.hid (HL.out.trans (hL1.mono (by simp)))
  clear hL1 HV
  go_wp2_with fail
  go_ret2
  exact ⟨rfl, HL.out⟩
theorem uPut_any (u : Un) (gv : Value) (w : World) (hn : u.name.size ≤ 100000) (hd : u.data.size ≤ 100000) (hg : u.gaps.length ≤ 1000) (hi : intsU u) (hG : GapsAt w gv u.gaps) :
    Calls Try.prog 12 #[u.val gv] w fun e w' => e = .returned (.tuple #[strOf (putS u).1, .int .i64 (putS u).2]) ∧ Below w.heap.size w w' := by
  have hs : wideU u := ⟨by omega, by omega, by omega⟩
  cases hv : validS u with
  | false => exact (uPut_out u gv w hs hv hG).mono fun e w' h => ⟨by rw [h.1, putS, if_neg (by rw [hv]; exact Bool.false_ne_true)]; rfl, h.2⟩
  | true =>
    have hv' := hv
    simp only [validS, Bool.and_eq_true, decide_eq_true_eq] at hv'
    obtain ⟨⟨⟨h1, -⟩, -⟩, -⟩ := hv'
    obtain ⟨k, hk⟩ := Int.eq_ofNat_of_zero_le (by omega : 0 ≤ u.kind)
    obtain ⟨ga, gc, rfl, h⟩ := hG
    exact (uPut_in k u ga gc w hk (by omega) (by omega) hn hd hg hi hv ⟨ga, gc, rfl, h⟩).mono fun e w' h => ⟨by rw [h.1, putS, if_pos hv], h.2⟩
end Go.Proofs.Ytkpgenmlpkfokaa
