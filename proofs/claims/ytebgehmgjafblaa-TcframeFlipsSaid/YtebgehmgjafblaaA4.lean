/- What is proved here: the walk of the assembler's method for last parts. -/
import Derived.Test.YtebgehmgjafblaaA3
import Derived.Deep.DeepCutAuto
set_option linter.unusedVariables false
set_option linter.unusedSimpArgs false
namespace Go.Proofs.Ytebgehmgjafblaa
open Go.RowKit
set_option maxHeartbeats 4000000 in
set_option maxRecDepth 100000 in
theorem last_any (part : ByteArray) (a base : Nat) (op : Bool) (xs : List UInt8) (w : World) (hp : part.size ≤ 1000) (hx : xs.length ≤ 1030) (hb : base ≤ w.heap.size) (hA : AsmAt w base a op xs) :
    Calls Try.prog 82 #[.pointer (some ⟨a, 0, none⟩), .string part] w fun e w' => e = .returned (if (midF op xs part.data.toList).1 then pieceV true ⟨(midF op xs part.data.toList).2.1.toArray⟩ false else pieceV false .empty (midF op xs part.data.toList).2.2) ∧ Below base w w' ∧ Apart a w w' ∧
      AsmAt w' base a false (if (midF op xs part.data.toList).1 then [] else (midF op xs part.data.toList).2.1) := by
  have hba := hA.1
  have hal : a < w.heap.size := by obtain ⟨_, v, h, _⟩ := hA; exact h.lt
  have hne1 : a ≠ w.heap.size := by omega
  have hne2 : w.heap.size ≠ a := by omega
  have hA0 := asm_below hA ((Below.refl w.heap.size w).alloc (Nat.le_refl _) (Obj.cells #[.bool false, .string ⟨#[]⟩, .int .i64 0, .bool false] 57)) (Nat.le_refl _)
  have hmid := middle_any part a base op xs _ hp hx (by simp; omega) hA0
  obtain ⟨⟨op1, xs1, br⟩, hr⟩ : ∃ r, r = midF op xs part.data.toList := ⟨_, rfl⟩
  rw [← hr] at hmid ⊢
  have HMID := Lib.hid hmid
  have HZ0 := Lib.hid (Blk.new w (pieceC false .empty false) 57)
  have HL0 := Lib.hid ((Below.refl base w).alloc hb (Obj.cells #[.bool false, .string ⟨#[]⟩, .int .i64 0, .bool false] 57))
  clear hmid hr hA hA0
  simp only
  cases op1
  · go_enter Try.func82, Try.ntmps82
    go_wp2_with fail
    refine HMID.out.mono ?_
    rintro e w1 ⟨rfl, hL1, hAp, hA1⟩
    obtain ⟨_, v1, hB1, hR1⟩ := hA1
    have hal1 := hB1.lt
    have hZ1 := hAp _ _ _ hne2 (by decide) HZ0.out
    have hzl := hZ1.lt
    have HL1 := Lib.hid (HL0.out.trans hL1)
    have HAP := Lib.hid (show Apart a w w1 from fun g cs t hg ht hB => hAp g cs t hg ht (hB.alloc _))
    have HB2 := Lib.hid (hB1.alloc (Obj.cells #[.bool false, .string .empty, .int .i64 0, .bool br] 57))
    have hn1 : a ≠ w1.heap.size := by omega
    have hn3 : w.heap.size ≠ w1.heap.size := by omega
    have b0 := hB1.cell 0
    have b1 := hB1.cell 1
    have b2 := hB1.cell 2
    have e0 := hB1.free 0
    have e1 := hB1.free 1
    have e2 := hB1.free 2
    simp only [List.getElem?_cons_zero, List.getElem?_cons_succ] at b0 b1 b2
    have HZ2 := Lib.hid (hZ1.alloc (Obj.cells #[.bool false, .string .empty, .int .i64 0, .bool br] 57))
    have hbl : base ≤ w1.heap.size := by omega
    have HA3 := Lib.hid (asm_below (⟨hba, v1, hB1, hR1⟩ : AsmAt w1 base a false xs1) ((Below.refl w1.heap.size w1).alloc (Nat.le_refl _) (Obj.cells #[.bool false, .string .empty, .int .i64 0, .bool br] 57)) (Nat.le_refl _))
    have hq2 := row_ne2 hR1 hZ1 (by decide)
    have HR1 := Lib.hid hR1
    clear hL1 hAp hR1
    have c0 := HB2.out.cell 0
    have c1 := HB2.out.cell 1
    have c2 := HB2.out.cell 2
    simp only [List.getElem?_cons_zero, List.getElem?_cons_succ] at c0 c1 c2
    have z0 := hZ1.cell 0
    have z1 := hZ1.cell 1
    have z2 := hZ1.cell 2
    have z3 := hZ1.cell 3
    have y0 := hZ1.free 0
    have y1 := hZ1.free 1
    have y2 := hZ1.free 2
    have y3 := hZ1.free 3
    simp only [pieceC, List.getElem?_cons_zero, List.getElem?_cons_succ] at z0 z1 z2 z3
    have HZ1 := Lib.hid hZ1; have HB1 := Lib.hid hB1; clear hZ1 hB1
    simp only [pieceV]
    go_wp2_with fail
    refine ret_cell rfl w.heap.size 57 (pieceC false .empty br) rfl (((((HZ1.out.set 0 _).set 1 _).set 2 _).set 3 _).alloc _) Try.underlying57 rfl (by kernel_rfl) rfl ?_
    refine ⟨rfl, ((((HL1.out.setCell (hb) _).setCell (hb) _).setCell (hb) _).setCell (hb) _).alloc (by simp; omega) _, fun g cs t hg ht hB => (((((HAP.out g cs t hg ht hB).set_far (Nat.ne_of_lt hB.lt) _).set_far (Nat.ne_of_lt hB.lt) _).set_far (Nat.ne_of_lt hB.lt) _).set_far (Nat.ne_of_lt hB.lt) _).alloc _, hba, v1, ((((HB1.out.set_far hne1 _).set_far hne1 _).set_far hne1 _).set_far hne1 _).alloc _, ?_⟩
    refine row_keep HR1.out (((((Keep.refl [w.heap.size] w1).setCell (.inl (by simp)) _).setCell (.inl (by simp)) _).setCell (.inl (by simp)) _).setCell (.inl (by simp)) _ |>.alloc _) ?_
    intro g hg
    have h2 := hq2 g hg
    simp; omega
  · go_enter Try.func82, Try.ntmps82
    go_wp2_with fail
    refine HMID.out.mono ?_
    rintro e w1 ⟨rfl, hL1, hAp, hA1⟩
    obtain ⟨_, v1, hB1, hR1⟩ := hA1
    have hal1 := hB1.lt
    have hZ1 := hAp _ _ _ hne2 (by decide) HZ0.out
    have hzl := hZ1.lt
    have HL1 := Lib.hid (HL0.out.trans hL1)
    have HAP := Lib.hid (show Apart a w w1 from fun g cs t hg ht hB => hAp g cs t hg ht (hB.alloc _))
    have hbl : base ≤ w1.heap.size := by omega
    clear hL1 hAp
    have hn1 : a ≠ w1.heap.size := by omega
    have hn3 : w.heap.size ≠ w1.heap.size := by omega
    have b0 := hB1.cell 0
    have b1 := hB1.cell 1
    have b2 := hB1.cell 2
    have e0 := hB1.free 0
    have e1 := hB1.free 1
    have e2 := hB1.free 2
    simp only [List.getElem?_cons_zero, List.getElem?_cons_succ] at b0 b1 b2
    have z0 := hZ1.cell 0
    have z1 := hZ1.cell 1
    have z2 := hZ1.cell 2
    have z3 := hZ1.cell 3
    have y0 := hZ1.free 0
    have y1 := hZ1.free 1
    have y2 := hZ1.free 2
    have y3 := hZ1.free 3
    simp only [pieceC, List.getElem?_cons_zero, List.getElem?_cons_succ] at z0 z1 z2 z3
    have HR1 := Lib.hid hR1
    have HZ1 := Lib.hid hZ1; have HB1 := Lib.hid hB1; clear hZ1 hB1
    simp only [pieceV]
    obtain ⟨oa, oc, rfl⟩ := row_form hR1
    have hcv := run_string (row_keep hR1 ((Keep.refl [] w1).alloc (Obj.cells #[.bool false, .string .empty, .int .i64 0, .bool br] 57)) (by simp))
    obtain ⟨sx, hsx⟩ : ∃ sx : ByteArray, sx = ⟨xs1.toArray⟩ := ⟨_, rfl⟩
    rw [← hsx] at hcv
    have HSX := Lib.hid hsx
    clear hsx hR1
    have HCV := Lib.hid hcv; clear hcv
    go_wp2_with fail
    rw [HCV.out]
    simp only [Result.andThen]
    go_upto_region 5 with fail
    refine gen_world (fun W => Below base w W ∧ Apart a w W ∧ AsmAt W base a false [] ∧ Blk W w.heap.size (pieceC false .empty false) 57 ∧ Blk W w1.heap.size (pieceC true sx false) 57) ⟨((HL1.out.setCell (p := ⟨a, 1, none⟩) hba _).setCell (p := ⟨a, 2, none⟩) hba _).alloc (by simp; omega) _, fun g cs t hg ht hB => (((HAP.out g cs t hg ht hB).set_far hg _).set_far hg _).alloc _, ⟨hba, _, ((HB1.out.set 1 _).set 2 _).alloc _, row_nil _ _⟩, ((HZ1.out.set_far hne2 _).set_far hne2 _).alloc _, Blk.new_at _ (pieceC true sx false) 57 w1.heap.size (by simp)⟩ ?_
    clear z0 z1 z2 z3 y0 y1 y2 y3 b0 b1 b2 e0 e1 e2 HR1 HCV HZ1 HB1 HL1 HAP HMID
    rintro w3 ⟨hL3, hP3, hA3, hZ3, hX3⟩
    have HL3 := Lib.hid hL3; have HP3 := Lib.hid hP3; have HA3 := Lib.hid hA3; have HZ3 := Lib.hid hZ3; have HX3 := Lib.hid hX3
    clear hL3 hP3 hA3 hZ3 hX3
    have z0 := HZ3.out.cell 0
    have z1 := HZ3.out.cell 1
    have z2 := HZ3.out.cell 2
    have z3 := HZ3.out.cell 3
    simp only [pieceC, List.getElem?_cons_zero, List.getElem?_cons_succ] at z0 z1 z2 z3
    have y0 := HZ3.out.free 0
    have y1 := HZ3.out.free 1
    have y2 := HZ3.out.free 2
    have y3 := HZ3.out.free 3
    have x0 := HX3.out.cell 0
    have x1 := HX3.out.cell 1
    have x2 := HX3.out.cell 2
    have x3 := HX3.out.cell 3
    simp only [pieceC, List.getElem?_cons_zero, List.getElem?_cons_succ] at x0 x1 x2 x3
    go_wp2_with fail
    refine ret_cell rfl w.heap.size 57 (pieceC true sx false) rfl ((((HZ3.out.set 0 _).set 1 _).set 2 _).set 3 _) Try.underlying57 rfl (by kernel_rfl) rfl ?_
    obtain ⟨_, v3, hB3, hR3⟩ := HA3.out
    refine ⟨by rw [HSX.out]; rfl, ((((HL3.out.setCell (hb) _).setCell (hb) _).setCell (hb) _).setCell (hb) _), fun g cs t hg ht hB => (((((HP3.out g cs t hg ht hB).set_far (Nat.ne_of_lt hB.lt) _).set_far (Nat.ne_of_lt hB.lt) _).set_far (Nat.ne_of_lt hB.lt) _).set_far (Nat.ne_of_lt hB.lt) _), hba, v3, ((((hB3.set_far hne1 _).set_far hne1 _).set_far hne1 _).set_far hne1 _), ?_⟩
    refine row_keep hR3 (((((Keep.refl [w.heap.size] w3).setCell (.inl (by simp)) _).setCell (.inl (by simp)) _).setCell (.inl (by simp)) _).setCell (.inl (by simp)) _) ?_
    intro g hg
    have h2 := row_ne2 hR3 HZ3.out (by decide) g hg
    simp; omega
end Go.Proofs.Ytebgehmgjafblaa
