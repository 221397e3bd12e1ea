/- What is proved here: what Put answers for any frame; the control frames. -/
import Derived.Test.YtbncejmohhejlaaT3r
import Derived.Test.YtbncejmohhejlaaRet
set_option linter.unusedVariables false
set_option linter.unusedSimpArgs false
namespace Go.Proofs.Ytbncejmohhejlaa
open Go.RowKit
/-- What Put answers. -/
def Tc.putV (x : Tc) : Value := if x.good then .tuple #[strOf x.enc, .int .i64 0] else .tuple #[strOf [], .int .i64 2]
/-- A good frame's fields are small naturals. -/
theorem Tc.good_nat (x : Tc) (h : x.good = true) : ∃ c ch s : Nat, c < 256 ∧ ch < 8 ∧ s < 256 ∧ 1 ≤ x.data.size ∧ x.data.size ≤ 200 ∧ (x.byp || !x.ctl) = true ∧ x = Tc.mk c ch x.byp x.ctl s x.data := by
  have h2 := (Tc.good_iff x).1 h
  obtain ⟨c, ch, b, k, s, d⟩ := x
  simp only at h2
  refine ⟨c.toNat, ch.toNat, s.toNat, by omega, by omega, by omega, h2.1.2.2.2.2.2.2.1, h2.1.2.2.2.2.2.2.2, h2.2, ?_⟩
  simp; omega
theorem Put_any (x : Tc) (w : World) : Calls Try.prog 58 #[x.val] w fun e w' => e = .returned x.putV ∧ Below w.heap.size w w' := by
  unfold Tc.putV
  by_cases hg : x.good = true
  · rw [if_pos hg]
    obtain ⟨c, ch, s, h1, h2, h3, h4, h5, h6, h7⟩ := x.good_nat hg
    rw [h7]
    exact Put_ok c ch s _ _ _ w h1 h2 h3 h4 h5 h6
  · rw [if_neg hg]
    exact Put_bad x w (by simpa using hg)
/-- The nothing of a frame. -/
def Tc.zero : Tc := ⟨0, 0, false, false, 0, .empty⟩
def Tc.ctlOf (c ch : Int) (d : ByteArray) : Tc := ⟨c, ch, true, true, 0, d⟩
def Tc.madeV (c ch : Int) (d : ByteArray) : Value := if (Tc.ctlOf c ch d).good then .tuple #[(Tc.ctlOf c ch d).val, .int .i64 0] else .tuple #[Tc.zero.val, .int .i64 2]
set_option maxHeartbeats 4000000 in
set_option maxRecDepth 100000 in
theorem made_any (c ch : Int) (d : ByteArray) (w : World) : Calls Try.prog 56 #[.int .i64 c, .int .i64 ch, .string d] w fun e w' => e = .returned (Tc.madeV c ch d) ∧ Below w.heap.size w w' := by
  have hv := valid_any (Tc.ctlOf c ch d)
  unfold Tc.madeV
  obtain ⟨g, hg⟩ : ∃ g, g = (Tc.ctlOf c ch d).good := ⟨_, rfl⟩
  rw [← hg] at hv ⊢
  simp only [Tc.val, Tc.ctlOf] at hv ⊢
  have HV := Lib.hid hv; clear hv hg
  have HL0 := Lib.hid ((Below.refl w.heap.size w).alloc (Nat.le_refl _) (Obj.cells Tc.zero.cells.toArray 31))
  have HL1 := Lib.hid (HL0.out.alloc HL0.out.size (Obj.cells (Tc.ctlOf c ch d).cells.toArray 31))
  have HZ := Lib.hid ((Blk.new w Tc.zero.cells 31).alloc (Obj.cells (Tc.ctlOf c ch d).cells.toArray 31))
  have HB := Lib.hid (Blk.new_at (w.alloc (Obj.cells Tc.zero.cells.toArray 31)) (Tc.ctlOf c ch d).cells 31 (w.heap.size + 1) (by simp))
  go_enter Try.func56, Try.ntmps56
  go_wp2_with fail
  refine (HV.out _).mono ?_
  rintro e w1 ⟨rfl, hL1⟩
  have HL2 := Lib.hid (HL1.out.trans (hL1.mono HL1.out.size))
  have hs2 : w.heap.size + 2 ≤ w1.heap.size := by have := hL1.size; simp at this; omega
  have HZ1 := Lib.hid (HZ.out.below hL1 (by simp; omega))
  have HB1 := Lib.hid (HB.out.below hL1 (by simp)); clear hL1
  have z0 := HZ1.out.cell 0
  have z1 := HZ1.out.cell 1
  have z2 := HZ1.out.cell 2
  have z3 := HZ1.out.cell 3
  have z4 := HZ1.out.cell 4
  have z5 := HZ1.out.cell 5
  have c0 := HB1.out.cell 0
  have c1 := HB1.out.cell 1
  have c2 := HB1.out.cell 2
  have c3 := HB1.out.cell 3
  have c4 := HB1.out.cell 4
  have c5 := HB1.out.cell 5
  have f0 := HZ1.out.free 0
  have f1 := HZ1.out.free 1
  have f2 := HZ1.out.free 2
  have f3 := HZ1.out.free 3
  have f4 := HZ1.out.free 4
  have f5 := HZ1.out.free 5
  simp only [Tc.cells, Tc.zero, Tc.ctlOf, List.getElem?_cons_zero, List.getElem?_cons_succ] at c0 c1 c2 c3 c4 c5 z0 z1 z2 z3 z4 z5
  cases g
  · go_wp2_with fail
    refine ret_cell_tmp rfl w.heap.size 31 Tc.zero.cells rfl ((((((HZ1.out.set 0 _).set 1 _).set 2 _).set 3 _).set 4 _).set 5 _) Try.underlying31 rfl (by kernel_rfl) rfl ?_
    exact ⟨rfl, (((((HL2.out.setCell (Nat.le_refl _) _).setCell (Nat.le_refl _) _).setCell (Nat.le_refl _) _).setCell (Nat.le_refl _) _).setCell (Nat.le_refl _) _).setCell (Nat.le_refl _) _⟩
  · go_wp2_with fail
    refine ret_cell_tmp rfl w.heap.size 31 (Tc.ctlOf c ch d).cells rfl ((((((HZ1.out.set 0 _).set 1 _).set 2 _).set 3 _).set 4 _).set 5 _) Try.underlying31 rfl (by kernel_rfl) rfl ?_
    exact ⟨rfl, (((((HL2.out.setCell (Nat.le_refl _) _).setCell (Nat.le_refl _) _).setCell (Nat.le_refl _) _).setCell (Nat.le_refl _) _).setCell (Nat.le_refl _) _).setCell (Nat.le_refl _) _⟩
end Go.Proofs.Ytbncejmohhejlaa
