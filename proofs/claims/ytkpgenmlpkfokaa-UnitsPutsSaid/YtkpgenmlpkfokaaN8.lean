/- What is proved here: walks of the functions that check the fields of a kind of unit. -/
import Derived.Test.YtkpgenmlpkfokaaN7
set_option linter.unusedVariables false
set_option linter.unusedSimpArgs false
namespace Go.Proofs.Ytkpgenmlpkfokaa
open Go.RowKit
def validU (k : Nat) (u : Un) : Bool :=
  match k with
  | 1 => decide (1 ≤ (u.name.size : Int) ∧ (u.name.size : Int) ≤ 32) && decide (0 ≤ u.size ∧ u.size ≤ 65535)
  | 2 => decide (1 ≤ (u.data.size : Int) ∧ (u.data.size : Int) ≤ 160) && decide (0 ≤ u.off ∧ u.off ≤ 65535 - (u.data.size : Int))
  | 3 => decide (0 ≤ u.why ∧ u.why ≤ 1) && decide (0 ≤ u.size ∧ u.size ≤ 65535)
  | 4 => decide (0 ≤ u.why ∧ u.why ≤ 4)
  | 5 => orderlyL u.gaps && (u.meta_ || decide (0 < u.gaps.length))
  | _ => (u.ans == 3) || (u.ans == 4)
/-- What a unit's strings and gaps have at most. -/
def smallU (u : Un) : Prop := u.name.size ≤ 1000000 ∧ u.data.size ≤ 1000000 ∧ u.gaps.length ≤ 1000000
/-- What any unit has at most; its gaps are fewer. -/
def wideU (u : Un) : Prop := u.name.size ≤ 9223372036854775807 ∧ u.data.size ≤ 9223372036854775807 ∧ u.gaps.length ≤ 1000000
theorem smallU.wide {u : Un} (h : smallU u) : wideU u := ⟨by have := h.1; omega, by have := h.2.1; omega, h.2.2⟩
set_option maxHeartbeats 2000000 in
set_option maxRecDepth 100000 in
theorem valid1_any (u : Un) (gv : Value) (w : World) (hs : wideU u) (hG : GapsAt w gv u.gaps) : Calls Try.prog 40 #[u.val gv] w fun e w' => e = .returned (.bool (validU 1 u)) ∧ Below w.heap.size w w' := by
  have HA := Lib.hid (Blk.new w (u.cells gv) 25)
  obtain ⟨ki, nu, nm, sz, su, of, da, wy, an, me, gs⟩ := u
  obtain ⟨hs1, hs2, hs3⟩ := hs
  simp only [Un.cells, Un.val, validU] at HA hs1 hs2 ⊢
  have x0 := HA.out.cell 0
  have x1 := HA.out.cell 1
  have x2 := HA.out.cell 2
  have x3 := HA.out.cell 3
  have x4 := HA.out.cell 4
  have x5 := HA.out.cell 5
  have x6 := HA.out.cell 6
  have x7 := HA.out.cell 7
  have x8 := HA.out.cell 8
  have x9 := HA.out.cell 9
  have x10 := HA.out.cell 10
  simp only [List.getElem?_cons_zero, List.getElem?_cons_succ] at x0 x1 x2 x3 x4 x5 x6 x7 x8 x9 x10
  obtain ⟨p, hp⟩ : ∃ p : Bool, p = decide (1 ≤ (nm.size : Int) ∧ (nm.size : Int) ≤ 32) := ⟨_, rfl⟩
  obtain ⟨q, hq⟩ : ∃ q : Bool, q = decide (0 ≤ sz ∧ sz ≤ 65535) := ⟨_, rfl⟩
  have H1 := Lib.hid (fun W => uwithin_any (nm.size : Int) 1 32 W)
  have H2 := Lib.hid (fun W => uwithin_any sz 0 65535 W)
  rw [← hp] at H1 ⊢
  rw [← hq] at H2 ⊢
  clear hp hq hG hs3
  cases p
  · go_enter Try.func40, Try.ntmps40
    go_wp2_with fail
    refine (H1.out _).mono ?_
    rintro e _ ⟨rfl, rfl⟩
    go_wp2_with fail
    go_ret
    exact ⟨rfl, (Below.refl _ _).alloc (Nat.le_refl _) _⟩
  · go_enter Try.func40, Try.ntmps40
    go_wp2_with fail
    refine (H1.out _).mono ?_
    rintro e _ ⟨rfl, rfl⟩
    go_wp2_with fail
    refine (H2.out _).mono ?_
    rintro e _ ⟨rfl, rfl⟩
    go_wp2_with fail
    go_ret
    exact ⟨rfl, (Below.refl _ _).alloc (Nat.le_refl _) _⟩
set_option maxHeartbeats 2000000 in
set_option maxRecDepth 100000 in
theorem valid2_any (u : Un) (gv : Value) (w : World) (hs : wideU u) (hG : GapsAt w gv u.gaps) : Calls Try.prog 45 #[u.val gv] w fun e w' => e = .returned (.bool (validU 2 u)) ∧ Below w.heap.size w w' := by
  have HA := Lib.hid (Blk.new w (u.cells gv) 25)
  obtain ⟨ki, nu, nm, sz, su, of, da, wy, an, me, gs⟩ := u
  obtain ⟨hs1, hs2, hs3⟩ := hs
  simp only [Un.cells, Un.val, validU] at HA hs1 hs2 ⊢
  have x0 := HA.out.cell 0
  have x1 := HA.out.cell 1
  have x2 := HA.out.cell 2
  have x3 := HA.out.cell 3
  have x4 := HA.out.cell 4
  have x5 := HA.out.cell 5
  have x6 := HA.out.cell 6
  have x7 := HA.out.cell 7
  have x8 := HA.out.cell 8
  have x9 := HA.out.cell 9
  have x10 := HA.out.cell 10
  simp only [List.getElem?_cons_zero, List.getElem?_cons_succ] at x0 x1 x2 x3 x4 x5 x6 x7 x8 x9 x10
  obtain ⟨p, hp⟩ : ∃ p : Bool, p = decide (1 ≤ (da.size : Int) ∧ (da.size : Int) ≤ 160) := ⟨_, rfl⟩
  obtain ⟨q, hq⟩ : ∃ q : Bool, q = decide (0 ≤ of ∧ of ≤ (65535 - (da.size : Int))) := ⟨_, rfl⟩
  have H1 := Lib.hid (fun W => uwithin_any (da.size : Int) 1 160 W)
  have H2 := Lib.hid (fun W => uwithin_any of 0 (65535 - (da.size : Int)) W)
  rw [← hp] at H1 ⊢
  rw [← hq] at H2 ⊢
  clear hp hq hG hs3
  cases p
  · go_enter Try.func45, Try.ntmps45
    go_wp2_with fail
    refine (H1.out _).mono ?_
    rintro e _ ⟨rfl, rfl⟩
    go_wp2_with fail
    go_ret
    exact ⟨rfl, (Below.refl _ _).alloc (Nat.le_refl _) _⟩
  · go_enter Try.func45, Try.ntmps45
    go_wp2_with fail
    refine (H1.out _).mono ?_
    rintro e _ ⟨rfl, rfl⟩
    go_wp2_with fail
    refine (H2.out _).mono ?_
    rintro e _ ⟨rfl, rfl⟩
    go_wp2_with fail
    go_ret
    exact ⟨rfl, (Below.refl _ _).alloc (Nat.le_refl _) _⟩
set_option maxHeartbeats 2000000 in
set_option maxRecDepth 100000 in
theorem valid3_any (u : Un) (gv : Value) (w : World) (hs : wideU u) (hG : GapsAt w gv u.gaps) : Calls Try.prog 49 #[u.val gv] w fun e w' => e = .returned (.bool (validU 3 u)) ∧ Below w.heap.size w w' := by
  have HA := Lib.hid (Blk.new w (u.cells gv) 25)
  obtain ⟨ki, nu, nm, sz, su, of, da, wy, an, me, gs⟩ := u
  obtain ⟨hs1, hs2, hs3⟩ := hs
  simp only [Un.cells, Un.val, validU] at HA hs1 hs2 ⊢
  have x0 := HA.out.cell 0
  have x1 := HA.out.cell 1
  have x2 := HA.out.cell 2
  have x3 := HA.out.cell 3
  have x4 := HA.out.cell 4
  have x5 := HA.out.cell 5
  have x6 := HA.out.cell 6
  have x7 := HA.out.cell 7
  have x8 := HA.out.cell 8
  have x9 := HA.out.cell 9
  have x10 := HA.out.cell 10
  simp only [List.getElem?_cons_zero, List.getElem?_cons_succ] at x0 x1 x2 x3 x4 x5 x6 x7 x8 x9 x10
  obtain ⟨p, hp⟩ : ∃ p : Bool, p = decide (0 ≤ wy ∧ wy ≤ 1) := ⟨_, rfl⟩
  obtain ⟨q, hq⟩ : ∃ q : Bool, q = decide (0 ≤ sz ∧ sz ≤ 65535) := ⟨_, rfl⟩
  have H1 := Lib.hid (fun W => uwithin_any wy 0 1 W)
  have H2 := Lib.hid (fun W => uwithin_any sz 0 65535 W)
  rw [← hp] at H1 ⊢
  rw [← hq] at H2 ⊢
  clear hp hq hG hs3
  cases p
  · go_enter Try.func49, Try.ntmps49
    go_wp2_with fail
    refine (H1.out _).mono ?_
    rintro e _ ⟨rfl, rfl⟩
    go_wp2_with fail
    go_ret
    exact ⟨rfl, (Below.refl _ _).alloc (Nat.le_refl _) _⟩
  · go_enter Try.func49, Try.ntmps49
    go_wp2_with fail
    refine (H1.out _).mono ?_
    rintro e _ ⟨rfl, rfl⟩
    go_wp2_with fail
    refine (H2.out _).mono ?_
    rintro e _ ⟨rfl, rfl⟩
    go_wp2_with fail
    go_ret
    exact ⟨rfl, (Below.refl _ _).alloc (Nat.le_refl _) _⟩
set_option maxHeartbeats 2000000 in
set_option maxRecDepth 100000 in
theorem valid4_any (u : Un) (gv : Value) (w : World) (hs : wideU u) (hG : GapsAt w gv u.gaps) : Calls Try.prog 54 #[u.val gv] w fun e w' => e = .returned (.bool (validU 4 u)) ∧ Below w.heap.size w w' := by
  have HA := Lib.hid (Blk.new w (u.cells gv) 25)
  obtain ⟨ki, nu, nm, sz, su, of, da, wy, an, me, gs⟩ := u
  simp only [Un.cells, Un.val, validU] at HA ⊢
  have x0 := HA.out.cell 0
  have x1 := HA.out.cell 1
  have x2 := HA.out.cell 2
  have x3 := HA.out.cell 3
  have x4 := HA.out.cell 4
  have x5 := HA.out.cell 5
  have x6 := HA.out.cell 6
  have x7 := HA.out.cell 7
  have x8 := HA.out.cell 8
  have x9 := HA.out.cell 9
  have x10 := HA.out.cell 10
  simp only [List.getElem?_cons_zero, List.getElem?_cons_succ] at x0 x1 x2 x3 x4 x5 x6 x7 x8 x9 x10
  clear hs hG
  obtain ⟨p, hp⟩ : ∃ p : Bool, p = decide (0 ≤ wy ∧ wy ≤ 4) := ⟨_, rfl⟩
  have H1 := Lib.hid (fun W => uwithin_any wy 0 4 W)
  rw [← hp] at H1 ⊢
  clear hp
  go_enter Try.func54, Try.ntmps54
  go_wp2_with fail
  refine (H1.out _).mono ?_
  rintro e _ ⟨rfl, rfl⟩
  go_wp2_with fail
  go_ret
  exact ⟨rfl, (Below.refl _ _).alloc (Nat.le_refl _) _⟩
set_option maxHeartbeats 2000000 in
set_option maxRecDepth 100000 in
theorem valid5_any (u : Un) (gv : Value) (w : World) (hs : wideU u) (hG : GapsAt w gv u.gaps) : Calls Try.prog 58 #[u.val gv] w fun e w' => e = .returned (.bool (validU 5 u)) ∧ Below w.heap.size w w' := by
  have HA := Lib.hid (Blk.new w (u.cells gv) 25)
  have HL := Lib.hid ((Below.refl w.heap.size w).alloc (Nat.le_refl _) (Obj.cells (u.cells gv).toArray 25))
  have HO := Lib.hid (orderly_any gv u.gaps (w.alloc (Obj.cells (u.cells gv).toArray 25)) hs.2.2 (hG.below HL.out (Nat.le_refl _)))
  obtain ⟨ki, nu, nm, sz, su, of, da, wy, an, me, gs⟩ := u
  obtain ⟨hs1, hs2, hs3⟩ := hs
  simp only [Un.cells, Un.val, validU] at HA HL HO hG hs3 ⊢
  obtain ⟨ga, gc, rfl, -⟩ := hG
  obtain ⟨p, hp⟩ : ∃ p : Bool, p = orderlyL gs := ⟨_, rfl⟩
  rw [← hp] at HO ⊢
  clear hp
  have x0 := HA.out.cell 0
  have x1 := HA.out.cell 1
  have x2 := HA.out.cell 2
  have x3 := HA.out.cell 3
  have x4 := HA.out.cell 4
  have x5 := HA.out.cell 5
  have x6 := HA.out.cell 6
  have x7 := HA.out.cell 7
  have x8 := HA.out.cell 8
  have x9 := HA.out.cell 9
  have x10 := HA.out.cell 10
  simp only [List.getElem?_cons_zero, List.getElem?_cons_succ] at x0 x1 x2 x3 x4 x5 x6 x7 x8 x9 x10
  by_cases hl : 0 < gs.length
  all_goals
    cases p
    · go_enter Try.func58, Try.ntmps58
      go_wp2_with fail
      refine HO.out.mono ?_
      rintro e w1 ⟨rfl, hL⟩
      replace HL := Lib.hid (HL.out.trans (hL.mono (by simp)))
      clear hL
      go_wp2_with fail
      go_ret
      exact ⟨rfl, HL.out⟩
    · cases me
      all_goals
        go_enter Try.func58, Try.ntmps58
        go_wp2_with fail
        refine HO.out.mono ?_
        rintro e w1 ⟨rfl, hL⟩
        replace HL := Lib.hid (HL.out.trans (hL.mono (by simp)))
        replace HA := Lib.hid (HA.out.below hL (by simp))
        clear hL x0 x1 x2 x3 x4 x5 x6 x7 x8 x9 x10
        have x0 := HA.out.cell 0
        have x1 := HA.out.cell 1
        have x2 := HA.out.cell 2
        have x3 := HA.out.cell 3
        have x4 := HA.out.cell 4
        have x5 := HA.out.cell 5
        have x6 := HA.out.cell 6
        have x7 := HA.out.cell 7
        have x8 := HA.out.cell 8
        have x9 := HA.out.cell 9
        have x10 := HA.out.cell 10
        simp only [List.getElem?_cons_zero, List.getElem?_cons_succ] at x0 x1 x2 x3 x4 x5 x6 x7 x8 x9 x10
        go_wp2_with fail
        go_ret
        exact ⟨by simp [hl], HL.out⟩
set_option maxHeartbeats 2000000 in
set_option maxRecDepth 100000 in
theorem valid6_any (u : Un) (gv : Value) (w : World) (hs : wideU u) (hG : GapsAt w gv u.gaps) : Calls Try.prog 63 #[u.val gv] w fun e w' => e = .returned (.bool (validU 6 u)) ∧ Below w.heap.size w w' := by
  have HA := Lib.hid (Blk.new w (u.cells gv) 25)
  obtain ⟨ki, nu, nm, sz, su, of, da, wy, an, me, gs⟩ := u
  simp only [Un.cells, Un.val, validU] at HA ⊢
  have x0 := HA.out.cell 0
  have x1 := HA.out.cell 1
  have x2 := HA.out.cell 2
  have x3 := HA.out.cell 3
  have x4 := HA.out.cell 4
  have x5 := HA.out.cell 5
  have x6 := HA.out.cell 6
  have x7 := HA.out.cell 7
  have x8 := HA.out.cell 8
  have x9 := HA.out.cell 9
  have x10 := HA.out.cell 10
  simp only [List.getElem?_cons_zero, List.getElem?_cons_succ] at x0 x1 x2 x3 x4 x5 x6 x7 x8 x9 x10
  clear hs hG
  obtain ⟨p, hp⟩ : ∃ p : Bool, (an == 3) = p := ⟨_, rfl⟩
  obtain ⟨q, hq⟩ : ∃ q : Bool, (an == 4) = q := ⟨_, rfl⟩
  rw [hp, hq]
  cases p <;> cases q
  all_goals
    go_enter Try.func63, Try.ntmps63
    go_wp2_with fail
    go_ret
    exact ⟨rfl, (Below.refl _ _).alloc (Nat.le_refl _) _⟩
theorem valid_any (k : Nat) (h1 : 1 ≤ k) (h6 : k ≤ 6) (u : Un) (gv : Value) (w : World) (hs : wideU u) (hG : GapsAt w gv u.gaps) : Calls Try.prog (fValid k) #[u.val gv] w fun e w' => e = .returned (.bool (validU k u)) ∧ Below w.heap.size w w' := by
  match k, h1, h6 with
  | 1, _, _ => exact valid1_any u gv w hs hG
  | 2, _, _ => exact valid2_any u gv w hs hG
  | 3, _, _ => exact valid3_any u gv w hs hG
  | 4, _, _ => exact valid4_any u gv w hs hG
  | 5, _, _ => exact valid5_any u gv w hs hG
  | 6, _, _ => exact valid6_any u gv w hs hG
end Go.Proofs.Ytkpgenmlpkfokaa
