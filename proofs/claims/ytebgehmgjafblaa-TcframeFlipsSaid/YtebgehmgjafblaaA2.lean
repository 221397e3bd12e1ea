/- What is proved here: the walks of the assembler's methods. -/
import Derived.Test.YtebgehmgjafblaaA1
import Derived.Test.YtebgehmgjafblaaRet
set_option linter.unusedVariables false
set_option linter.unusedSimpArgs false
namespace Go.Proofs.Ytebgehmgjafblaa
open Go.RowKit
def pieceV (w : Bool) (m : ByteArray) (b : Bool) : Value := .agg #[.bool w, .string m, .int .i64 0, .bool b]
def pieceC (w : Bool) (m : ByteArray) (b : Bool) : List Value := [.bool w, .string m, .int .i64 0, .bool b]
/-- An assembler that New returned, with its text. -/
def AsmAt (w : World) (base a : Nat) (op : Bool) (xs : List UInt8) : Prop := base ≤ a ∧ ∃ v, Blk w a [.bool true, .bool op, v] 55 ∧ Row w base v xs
/-- What is no row of bytes, and not the assembler itself, is as it was. -/
def Apart (a : Nat) (w w' : World) : Prop := ∀ g cs t, g ≠ a → ¬ t = 5 → Blk w g cs t → Blk w' g cs t
theorem Apart.trans {a : Nat} {w w' w'' : World} (h : Apart a w w') (k : Apart a w' w'') : Apart a w w'' := fun g cs t h1 h2 h3 => k g cs t h1 h2 (h g cs t h1 h2 h3)
theorem Apart.below {a : Nat} {w w' : World} (k : Below w.heap.size w w') : Apart a w w' := fun g cs t h1 h2 h3 => h3.below k h3.lt
theorem asm_below {w w' : World} {base a B : Nat} {op : Bool} {xs : List UInt8} (h : AsmAt w base a op xs) (k : Below B w w') (hB : w.heap.size ≤ B) : AsmAt w' base a op xs := by
  obtain ⟨h1, v, h2, h3⟩ := h
  exact ⟨h1, v, h2.below k (Nat.lt_of_lt_of_le h2.lt hB), row_below h3 k hB⟩
theorem row_ne {w : World} {base a : Nat} {v : Value} {xs : List UInt8} {cs : List Value} (hR : Row w base v xs) (hB : Blk w a cs 55) : ∀ g, v.ownBlock = some g → g ∉ [a] := by
  intro g hg
  rcases hR with ⟨rfl, _⟩ | ⟨g', cap, cur, fr, rfl, hb, hh, _⟩
  · cases hg
  · have e : g' = g := by injection hg
    subst e
    simp only [List.mem_singleton]
    intro e2
    subst e2
    rw [hB] at hh
    injection hh with hh
    injection hh with _ h2
    exact absurd h2 (by decide)
attribute [local go_sem] run_bytes bytes_size
set_option maxHeartbeats 4000000 in
set_option maxRecDepth 100000 in
theorem first_any (part : ByteArray) (a base : Nat) (op : Bool) (xs : List UInt8) (w : World) (hp : part.size ≤ 1000) (hb : base ≤ w.heap.size) (hA : AsmAt w base a op xs) :
    Calls Try.prog 81 #[.pointer (some ⟨a, 0, none⟩), .string part] w fun e w' => e = .returned (pieceV false .empty op) ∧ Below base w w' ∧ Apart a w w' ∧ AsmAt w' base a true part.data.toList := by
  obtain ⟨hba, v, hB, hR⟩ := hA
  have hal := hB.lt
  have HB0 := Lib.hid (hB.alloc (Obj.cells #[.bool false, .string ⟨#[]⟩, .int .i64 0, .bool false] 57))
  have HZ0 := Lib.hid (Blk.new w (pieceC false .empty false) 57)
  have HB1 := Lib.hid (HB0.out.keep (bytes_keep (w.alloc (Obj.cells #[.bool false, .string ⟨#[]⟩, .int .i64 0, .bool false] 57)) part) (by simp))
  have HZ1 := Lib.hid (HZ0.out.keep (bytes_keep (w.alloc (Obj.cells #[.bool false, .string ⟨#[]⟩, .int .i64 0, .bool false] 57)) part) (by simp))
  have hr1 := bytes_row (w.alloc (Obj.cells #[.bool false, .string ⟨#[]⟩, .int .i64 0, .bool false] 57)) part (by omega)
  rw [show (w.alloc (Obj.cells #[.bool false, .string ⟨#[]⟩, .int .i64 0, .bool false] 57)).heap.size = w.heap.size + 1 by simp] at hr1
  have HR1 := Lib.hid hr1; clear hr1
  have c0 := HB0.out.cell 0
  have c1 := HB0.out.cell 1
  have c2 := HB0.out.cell 2
  simp only [List.getElem?_cons_zero, List.getElem?_cons_succ] at c0 c1 c2
  have d0 := HB1.out.cell 0
  have d1 := HB1.out.cell 1
  have d2 := HB1.out.cell 2
  simp only [List.getElem?_cons_zero, List.getElem?_cons_succ] at d0 d1 d2
  have f0 := HB1.out.free 0
  have f1 := HB1.out.free 1
  have f2 := HB1.out.free 2
  have z0 := HZ1.out.cell 0
  have z1 := HZ1.out.cell 1
  have z2 := HZ1.out.cell 2
  have z3 := HZ1.out.cell 3
  simp only [pieceC, List.getElem?_cons_zero, List.getElem?_cons_succ] at z0 z1 z2 z3
  have y0 := HZ1.out.free 0
  have y1 := HZ1.out.free 1
  have y2 := HZ1.out.free 2
  have y3 := HZ1.out.free 3
  have hne1 : a ≠ w.heap.size := by omega
  have hne2 : w.heap.size ≠ a := by omega
  clear hB hR
  have HL1 := Lib.hid ((((Keep.refl [] w).alloc (Obj.cells #[.bool false, .string ⟨#[]⟩, .int .i64 0, .bool false] 57)).trans (bytes_keep (w.alloc (Obj.cells #[.bool false, .string ⟨#[]⟩, .int .i64 0, .bool false] 57)) part)).toBelowAt hb (by simp))
  go_enter Try.func81, Try.ntmps81
  go_wp2_with fail
  refine ret_cell rfl w.heap.size 57 (pieceC false .empty op) rfl ((((((HZ1.out.set_far hne2 _).set_far hne2 _).set 0 _).set 1 _).set 2 _).set 3 _) Try.underlying57 rfl (by kernel_rfl) rfl ?_
  refine ⟨rfl, ((((((HL1.out.setCell hba _).setCell hba _).setCell hb _).setCell hb _).setCell hb _).setCell hb _), fun g cs t hg ht hB => ((((((((hB.alloc _).keep (bytes_keep _ _) (by simp)).set_far hg _).set_far hg _).set_far (Nat.ne_of_lt hB.lt) _).set_far (Nat.ne_of_lt hB.lt) _).set_far (Nat.ne_of_lt hB.lt) _).set_far (Nat.ne_of_lt hB.lt) _), hba, _, ((((((HB1.out.set 1 _).set 2 _).set_far hne1 _).set_far hne1 _).set_far hne1 _).set_far hne1 _), ?_⟩
  refine row_mono (row_keep HR1.out (((((((Keep.refl [a, w.heap.size] _).setCell (.inl (by simp)) _).setCell (.inl (by simp)) _).setCell (.inl (by simp)) _).setCell (.inl (by simp)) _).setCell (.inl (by simp)) _).setCell (.inl (by simp)) _) ?_) (by omega)
  intro g hg
  have : g = w.heap.size + 1 := by injection hg with hg; exact hg.symm
  simp; omega
set_option maxHeartbeats 4000000 in
set_option maxRecDepth 100000 in
theorem only_any (part : ByteArray) (a base : Nat) (op : Bool) (xs : List UInt8) (w : World) (hp : part.size ≤ 1000) (hb : base ≤ w.heap.size) (hA : AsmAt w base a op xs) :
    Calls Try.prog 83 #[.pointer (some ⟨a, 0, none⟩), .string part] w fun e w' => e = .returned (pieceV true part op) ∧ Below base w w' ∧ Apart a w w' ∧ AsmAt w' base a false [] := by
  obtain ⟨hba, v, hB, hR⟩ := hA
  have hal := hB.lt
  have HL0 := Lib.hid ((Below.refl base w).alloc hb (Obj.cells #[.bool false, .string ⟨#[]⟩, .int .i64 0, .bool false] 57))
  have HB0 := Lib.hid (hB.alloc (Obj.cells #[.bool false, .string ⟨#[]⟩, .int .i64 0, .bool false] 57))
  have HZ0 := Lib.hid (Blk.new w (pieceC false .empty false) 57)
  have c0 := HB0.out.cell 0
  have c1 := HB0.out.cell 1
  have c2 := HB0.out.cell 2
  simp only [List.getElem?_cons_zero, List.getElem?_cons_succ] at c0 c1 c2
  have hc0 := hB.cell 0
  have hc1 := hB.cell 1
  have hc2 := hB.cell 2
  have hf0 := hB.free 0
  have hf1 := hB.free 1
  have hf2 := hB.free 2
  simp only [List.getElem?_cons_zero, List.getElem?_cons_succ] at hc0 hc1 hc2
  have f0 := HB0.out.free 0
  have f1 := HB0.out.free 1
  have f2 := HB0.out.free 2
  have hne1 : a ≠ w.heap.size := by omega
  have hne2 : w.heap.size ≠ a := by omega
  have HBk := Lib.hid hB
  clear hB hR
  have HB1 := Lib.hid (((HBk.out.set 1 (.bool false)).set 2 (.slice none 0 0)).alloc (Obj.cells #[.bool false, .string ⟨#[]⟩, .int .i64 0, .bool false] 57))
  have HZ1 := Lib.hid (Blk.new_at ((w.setCell ⟨a, 1, none⟩ (.bool false)).setCell ⟨a, 2, none⟩ (.slice none 0 0)) (pieceC false .empty false) 57 w.heap.size (by simp))
  have HL1 := Lib.hid ((((Below.refl base w).setCell (p := ⟨a, 1, none⟩) hba (.bool false)).setCell (p := ⟨a, 2, none⟩) hba (.slice none 0 0)).alloc (by simpa using hb) (Obj.cells #[.bool false, .string ⟨#[]⟩, .int .i64 0, .bool false] 57))
  go_enter Try.func83, Try.ntmps83
  go_wp2_with fail
  refine (Clone_any part _ (by omega)).mono ?_
  rintro e w1 ⟨rfl, hL1⟩
  have HL2 := Lib.hid (HL1.out.trans (hL1.mono (by have := HL1.out.size; omega)))
  have HAP := Lib.hid (Apart.below (a := a) hL1)
  have HB2 := Lib.hid (HB1.out.below hL1 (by simp; omega))
  have HZ2 := Lib.hid (HZ1.out.below hL1 (by simp)); clear hL1
  clear hc0 hc1 hc2 hf0 hf1 hf2 c0 c1 c2 f0 f1 f2
  have z0 := HZ2.out.cell 0
  have z1 := HZ2.out.cell 1
  have z2 := HZ2.out.cell 2
  have z3 := HZ2.out.cell 3
  simp only [pieceC, List.getElem?_cons_zero, List.getElem?_cons_succ] at z0 z1 z2 z3
  have y0 := HZ2.out.free 0
  have y1 := HZ2.out.free 1
  have y2 := HZ2.out.free 2
  have y3 := HZ2.out.free 3
  go_wp2_with fail
  refine ret_cell rfl w.heap.size 57 (pieceC true part op) rfl ((((HZ2.out.set 0 _).set 1 _).set 2 _).set 3 _) Try.underlying57 rfl (by kernel_rfl) rfl ?_
  exact ⟨rfl, ((((HL2.out.setCell (hb) _).setCell (hb) _).setCell (hb) _).setCell (hb) _), fun g cs t hg ht hB => (((((HAP.out g cs t hg ht (((hB.set_far hg _).set_far hg _).alloc _)).set_far (Nat.ne_of_lt hB.lt) _).set_far (Nat.ne_of_lt hB.lt) _).set_far (Nat.ne_of_lt hB.lt) _).set_far (Nat.ne_of_lt hB.lt) _), hba, _, ((((HB2.out.set_far hne1 _).set_far hne1 _).set_far hne1 _).set_far hne1 _), row_nil _ _⟩
end Go.Proofs.Ytebgehmgjafblaa
