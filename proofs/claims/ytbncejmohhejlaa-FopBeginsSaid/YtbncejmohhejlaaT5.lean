/- What is proved here: the walks of Unlock and SetNext, and of their references. -/
import Derived.Test.YtbncejmohhejlaaT4
set_option linter.unusedVariables false
set_option linter.unusedSimpArgs false
namespace Go.Proofs.Ytbncejmohhejlaa
open Go.RowKit
def badV : Value := .tuple #[Tc.zero.val, .int .i64 2]
theorem madeV_true (c ch : Int) (d : ByteArray) (h : (Tc.ctlOf c ch d).good = true) : Tc.madeV c ch d = .tuple #[.agg #[.int .i64 c, .int .i64 ch, .bool true, .bool true, .int .i64 0, .string d], .int .i64 0] := by unfold Tc.madeV; rw [if_pos h]; rfl
theorem madeV_false (c ch : Int) (d : ByteArray) (h : (Tc.ctlOf c ch d).good = false) : Tc.madeV c ch d = .tuple #[.agg #[.int .i64 0, .int .i64 0, .bool false, .bool false, .int .i64 0, .string ⟨#[]⟩], .int .i64 2] := by unfold Tc.madeV; rw [if_neg (by simp [h])]; rfl
set_option maxHeartbeats 4000000 in
set_option maxRecDepth 100000 in
theorem Unlock_any (c ch : Int) (w : World) : Calls Try.prog 36 #[.int .i64 c, .int .i64 ch] w fun e w' => e = .returned (Tc.madeV c ch ⟨#[0]⟩) ∧ Below w.heap.size w w' := by
  have hm := made_any c ch ⟨#[0]⟩
  have HL0 := Lib.hid ((Below.refl w.heap.size w).alloc (Nat.le_refl _) (Obj.cells Tc.zero.cells.toArray 31))
  have HZ := Lib.hid (Blk.new w Tc.zero.cells 31)
  cases hg : (Tc.ctlOf c ch ⟨#[0]⟩).good
  · rw [madeV_false _ _ _ hg] at hm ⊢
    have HM := Lib.hid hm; clear hm hg
    go_enter Try.func36, Try.ntmps36
    go_wp2_with fail
    refine (HM.out _).mono ?_
    rintro e w1 ⟨rfl, hL1⟩
    have HL1 := Lib.hid (HL0.out.trans (hL1.mono HL0.out.size))
    have HZ1 := Lib.hid (HZ.out.below hL1 (by simp)); clear hL1
    have z0 := HZ1.out.cell 0
    have z1 := HZ1.out.cell 1
    have z2 := HZ1.out.cell 2
    have z3 := HZ1.out.cell 3
    have z4 := HZ1.out.cell 4
    have z5 := HZ1.out.cell 5
    simp only [Tc.cells, Tc.zero, List.getElem?_cons_zero, List.getElem?_cons_succ] at z0 z1 z2 z3 z4 z5
    have f0 := HZ1.out.free 0
    have f1 := HZ1.out.free 1
    have f2 := HZ1.out.free 2
    have f3 := HZ1.out.free 3
    have f4 := HZ1.out.free 4
    have f5 := HZ1.out.free 5
    go_wp2_with fail
    refine ret_cell_tmp rfl w.heap.size 31 Tc.zero.cells rfl ((((((HZ1.out.set 0 _).set 1 _).set 2 _).set 3 _).set 4 _).set 5 _) Try.underlying31 rfl (by kernel_rfl) rfl ?_
    exact ⟨rfl, ((((((HL1.out.setCell (Nat.le_refl _) _).setCell (Nat.le_refl _) _).setCell (Nat.le_refl _) _).setCell (Nat.le_refl _) _).setCell (Nat.le_refl _) _).setCell (Nat.le_refl _) _)⟩
  · rw [madeV_true _ _ _ hg] at hm ⊢
    have HM := Lib.hid hm; clear hm hg
    go_enter Try.func36, Try.ntmps36
    go_wp2_with fail
    refine (HM.out _).mono ?_
    rintro e w1 ⟨rfl, hL1⟩
    have HL1 := Lib.hid (HL0.out.trans (hL1.mono HL0.out.size))
    have HZ1 := Lib.hid (HZ.out.below hL1 (by simp)); clear hL1
    have z0 := HZ1.out.cell 0
    have z1 := HZ1.out.cell 1
    have z2 := HZ1.out.cell 2
    have z3 := HZ1.out.cell 3
    have z4 := HZ1.out.cell 4
    have z5 := HZ1.out.cell 5
    simp only [Tc.cells, Tc.zero, List.getElem?_cons_zero, List.getElem?_cons_succ] at z0 z1 z2 z3 z4 z5
    have f0 := HZ1.out.free 0
    have f1 := HZ1.out.free 1
    have f2 := HZ1.out.free 2
    have f3 := HZ1.out.free 3
    have f4 := HZ1.out.free 4
    have f5 := HZ1.out.free 5
    go_wp2_with fail
    refine ret_cell_tmp rfl w.heap.size 31 (Tc.ctlOf c ch ⟨#[0]⟩).cells rfl ((((((HZ1.out.set 0 _).set 1 _).set 2 _).set 3 _).set 4 _).set 5 _) Try.underlying31 rfl (by kernel_rfl) rfl ?_
    exact ⟨rfl, ((((((HL1.out.setCell (Nat.le_refl _) _).setCell (Nat.le_refl _) _).setCell (Nat.le_refl _) _).setCell (Nat.le_refl _) _).setCell (Nat.le_refl _) _).setCell (Nat.le_refl _) _)⟩
/-- The data of a frame that sets the next number. -/
def snData (n : Int) : ByteArray := ⟨#[130, 0]⟩ ++ ⟨#[UInt8.ofNat (n % 256).toNat]⟩
def setNextV (c ch n : Int) : Value := if 0 ≤ n ∧ n ≤ 255 then Tc.madeV c ch (snData n) else badV
theorem sn_byte (n : Int) : n % 256 = ((UInt8.ofNat (n % 256).toNat).toNat : Int) := by rw [UInt8.toNat_ofNat']; omega
set_option maxHeartbeats 4000000 in
set_option maxRecDepth 100000 in
theorem SetNext_any (c ch n : Int) (w : World) : Calls Try.prog 37 #[.int .i64 c, .int .i64 ch, .int .i64 n] w fun e w' => e = .returned (setNextV c ch n) ∧ Below w.heap.size w w' := by
  have HL0 := Lib.hid ((Below.refl w.heap.size w).alloc (Nat.le_refl _) (Obj.cells Tc.zero.cells.toArray 31))
  have HZ := Lib.hid (Blk.new w Tc.zero.cells 31)
  have z0 := HZ.out.cell 0
  have z1 := HZ.out.cell 1
  have z2 := HZ.out.cell 2
  have z3 := HZ.out.cell 3
  have z4 := HZ.out.cell 4
  have z5 := HZ.out.cell 5
  simp only [Tc.cells, Tc.zero, List.getElem?_cons_zero, List.getElem?_cons_succ] at z0 z1 z2 z3 z4 z5
  have f0 := HZ.out.free 0
  have f1 := HZ.out.free 1
  have f2 := HZ.out.free 2
  have f3 := HZ.out.free 3
  have f4 := HZ.out.free 4
  have f5 := HZ.out.free 5
  unfold setNextV
  by_cases hn : 0 ≤ n ∧ n ≤ 255
  case neg =>
    rw [if_neg hn]
    by_cases h0 : n < 0
    · have h1 : decide (n < 0) = true := by simpa using h0
      go_enter Try.func37, Try.ntmps37
      go_wp2_with fail
      refine ret_cell_tmp rfl w.heap.size 31 Tc.zero.cells rfl HZ.out Try.underlying31 rfl (by kernel_rfl) rfl ?_
      exact ⟨rfl, HL0.out⟩
    · have h1 : decide (n < 0) = false := by simpa using h0
      have h2 : decide (255 < n) = true := by simp; omega
      go_enter Try.func37, Try.ntmps37
      go_wp2_with fail
      refine ret_cell_tmp rfl w.heap.size 31 Tc.zero.cells rfl HZ.out Try.underlying31 rfl (by kernel_rfl) rfl ?_
      exact ⟨rfl, HL0.out⟩
  rw [if_pos hn]
  have h1 : decide (n < 0) = false := by simp; omega
  have h2 : decide (255 < n) = false := by simp; omega
  have h3 : 0 ≤ n := hn.1
  have h4 : n ≤ 255 := hn.2
  have hm := made_any c ch (snData n)
  obtain ⟨sc, hsc⟩ : ∃ sc : ByteArray, sc = ⟨#[UInt8.ofNat (n % 256).toNat]⟩ := ⟨_, rfl⟩
  have hbs := byte_string (w.alloc (Obj.cells #[.int .i64 0, .int .i64 0, .bool false, .bool false, .int .i64 0, .string ⟨#[]⟩] 31)) n (UInt8.ofNat (n % 256).toNat) (by rw [← sn_byte]; omega)
  rw [show (w.alloc (Obj.cells #[.int .i64 0, .int .i64 0, .bool false, .bool false, .int .i64 0, .string ⟨#[]⟩] 31)).heap.size = w.heap.size + 1 by simp] at hbs
  have hsn : snData n = ⟨#[130, 0]⟩ ++ sc := by rw [hsc]; rfl
  rw [← hsc] at hbs
  rw [hsn] at hm ⊢
  have hcs : sc.size ≤ 1 := by rw [hsc]; exact Nat.le_refl _
  have HL1 := Lib.hid (HL0.out.alloc HL0.out.size (Obj.cells #[.int .u8 n] 5))
  have HZ0 := Lib.hid (HZ.out.alloc (Obj.cells #[.int .u8 n] 5))
  clear z0 z1 z2 z3 z4 z5 f0 f1 f2 f3 f4 f5
  clear hsc hn hsn
  cases hg : (Tc.ctlOf c ch (⟨#[130, 0]⟩ ++ sc)).good
  · rw [madeV_false _ _ _ hg] at hm ⊢
    have HM := Lib.hid hm; clear hm hg
    go_enter Try.func37, Try.ntmps37
    go_wp2_with fail
    refine (HM.out _).mono ?_
    rintro e w1 ⟨rfl, hL1⟩
    clear hbs
    have HL2 := Lib.hid (HL1.out.trans (hL1.mono HL1.out.size))
    have HZ1 := Lib.hid (HZ0.out.below hL1 (by simp; omega)); clear hL1
    have z0 := HZ1.out.cell 0
    have z1 := HZ1.out.cell 1
    have z2 := HZ1.out.cell 2
    have z3 := HZ1.out.cell 3
    have z4 := HZ1.out.cell 4
    have z5 := HZ1.out.cell 5
    simp only [Tc.cells, Tc.zero, List.getElem?_cons_zero, List.getElem?_cons_succ] at z0 z1 z2 z3 z4 z5
    have f0 := HZ1.out.free 0
    have f1 := HZ1.out.free 1
    have f2 := HZ1.out.free 2
    have f3 := HZ1.out.free 3
    have f4 := HZ1.out.free 4
    have f5 := HZ1.out.free 5
    go_wp2_with fail
    refine ret_cell_tmp rfl w.heap.size 31 Tc.zero.cells rfl ((((((HZ1.out.set 0 _).set 1 _).set 2 _).set 3 _).set 4 _).set 5 _) Try.underlying31 rfl (by kernel_rfl) rfl ?_
    exact ⟨rfl, ((((((HL2.out.setCell (Nat.le_refl _) _).setCell (Nat.le_refl _) _).setCell (Nat.le_refl _) _).setCell (Nat.le_refl _) _).setCell (Nat.le_refl _) _).setCell (Nat.le_refl _) _)⟩
  · rw [madeV_true _ _ _ hg] at hm ⊢
    have HM := Lib.hid hm; clear hm hg
    go_enter Try.func37, Try.ntmps37
    go_wp2_with fail
    refine (HM.out _).mono ?_
    rintro e w1 ⟨rfl, hL1⟩
    clear hbs
    have HL2 := Lib.hid (HL1.out.trans (hL1.mono HL1.out.size))
    have HZ1 := Lib.hid (HZ0.out.below hL1 (by simp; omega)); clear hL1
    have z0 := HZ1.out.cell 0
    have z1 := HZ1.out.cell 1
    have z2 := HZ1.out.cell 2
    have z3 := HZ1.out.cell 3
    have z4 := HZ1.out.cell 4
    have z5 := HZ1.out.cell 5
    simp only [Tc.cells, Tc.zero, List.getElem?_cons_zero, List.getElem?_cons_succ] at z0 z1 z2 z3 z4 z5
    have f0 := HZ1.out.free 0
    have f1 := HZ1.out.free 1
    have f2 := HZ1.out.free 2
    have f3 := HZ1.out.free 3
    have f4 := HZ1.out.free 4
    have f5 := HZ1.out.free 5
    go_wp2_with fail
    refine ret_cell_tmp rfl w.heap.size 31 (Tc.ctlOf c ch (⟨#[130, 0]⟩ ++ sc)).cells rfl ((((((HZ1.out.set 0 _).set 1 _).set 2 _).set 3 _).set 4 _).set 5 _) Try.underlying31 rfl (by kernel_rfl) rfl ?_
    exact ⟨rfl, ((((((HL2.out.setCell (Nat.le_refl _) _).setCell (Nat.le_refl _) _).setCell (Nat.le_refl _) _).setCell (Nat.le_refl _) _).setCell (Nat.le_refl _) _).setCell (Nat.le_refl _) _)⟩
end Go.Proofs.Ytbncejmohhejlaa
