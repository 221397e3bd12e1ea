/- What is proved here: what Feed answers for any segment, for an assembler that New returned and for others. -/
import Derived.Test.YtebgehmgjafblaaA4
import Derived.Test.YtebgehmgjafblaaA6m
import Derived.Test.YtebgehmgjafblaaA6f
import Derived.Test.YtebgehmgjafblaaA6l
import Derived.Test.YtebgehmgjafblaaA6o
set_option linter.unusedVariables false
set_option linter.unusedSimpArgs false
namespace Go.Proofs.Ytebgehmgjafblaa
open Go.RowKit
abbrev PieceL := Bool × List UInt8 × Bool
def pv (r : PieceL) : Value := pieceV r.1 ⟨r.2.1.toArray⟩ r.2.2
def stepF (op : Bool) (xs part : List UInt8) (fl : Nat) : PieceL × Bool × List UInt8 :=
  if fl = 0 then ((false, [], (midF op xs part).2.2), (midF op xs part).1, (midF op xs part).2.1)
  else if fl = 1 then ((false, [], op), true, part)
  else if fl = 2 then (if (midF op xs part).1 then ((true, (midF op xs part).2.1, false), false, []) else ((false, [], (midF op xs part).2.2), false, (midF op xs part).2.1))
  else ((true, part, op), false, [])
def segOk (s : List UInt8) : Bool := decide (2 ≤ s.length ∧ s.length ≤ 200 ∧ (s.headD 0).toNat % 64 = 0)
def feedF (op : Bool) (xs s : List UInt8) : PieceL × Int × Bool × List UInt8 :=
  if segOk s then ((stepF op xs (s.drop 1) ((s.headD 0).toNat / 64)).1, 0, (stepF op xs (s.drop 1) ((s.headD 0).toNat / 64)).2) else ((false, [], false), 6, op, xs)
set_option maxRecDepth 100000 in
theorem and63 : ∀ n : Fin 256, (bits BinOp.and IntKind.u8 ((n.val : Nat) : Int) 63 != 0) = decide (n.val % 64 ≠ 0) := by decide
set_option maxHeartbeats 4000000 in
set_option maxRecDepth 100000 in
theorem Feed_bad (s : ByteArray) (a base : Nat) (op : Bool) (xs : List UInt8) (w : World) (h : segOk s.data.toList = false) (hb : base ≤ w.heap.size) (hA : AsmAt w base a op xs) :
    Calls Try.prog 27 #[.pointer (some ⟨a, 0, none⟩), .string s] w fun e w' => e = .returned (.tuple #[pieceV false ⟨#[]⟩ false, .int .i64 6]) ∧ Below base w w' ∧ Apart a w w' ∧ AsmAt w' base a op xs := by
  have hba := hA.1
  have hal : a < w.heap.size := by obtain ⟨_, v, h, _⟩ := hA; exact h.lt
  have hne1 : a ≠ w.heap.size := by omega
  have HA0 := Lib.hid (hA.alloc (Obj.cells #[.bool false, .string ⟨#[]⟩, .int .i64 0, .bool false] 57))
  obtain ⟨_, v, hB, _⟩ := hA
  have HB := Lib.hid (hB.alloc (Obj.cells #[.bool false, .string ⟨#[]⟩, .int .i64 0, .bool false] 57))
  clear hB
  have b0 := HB.out.cell 0
  have b1 := HB.out.cell 1
  have b2 := HB.out.cell 2
  simp only [List.getElem?_cons_zero, List.getElem?_cons_succ] at b0 b1 b2
  have hfin : ∀ {a' : Act} {p q : Tmp}, True := fun {_ _ _} => trivial
  by_cases h1 : s.size < 2
  · have k1 : (s.size : Int) < 2 := by omega
    clear h
    go_enter Try.func27, Try.ntmps27
    go_wp2_with fail
    refine ret_cell_tmp rfl w.heap.size 57 (pieceC false ⟨#[]⟩ false) rfl (Blk.new w _ _) Try.underlying57 rfl (by kernel_rfl) rfl ?_
    exact ⟨rfl, (Below.refl _ _).alloc hb _, fun g cs t hg ht hB => hB.alloc _, HA0.out⟩
  · by_cases h2 : 200 < s.size
    · have k1 : ¬ ((s.size : Int) < 2) := by omega
      have k2 : (200 : Int) < s.size := by omega
      clear h
      go_enter Try.func27, Try.ntmps27
      go_wp2_with fail
      refine ret_cell_tmp rfl w.heap.size 57 (pieceC false ⟨#[]⟩ false) rfl (Blk.new w _ _) Try.underlying57 rfl (by kernel_rfl) rfl ?_
      exact ⟨rfl, (Below.refl _ _).alloc hb _, fun g cs t hg ht hB => hB.alloc _, HA0.out⟩
    · have k1 : ¬ ((s.size : Int) < 2) := by omega
      have k2 : ¬ ((200 : Int) < s.size) := by omega
      have k3 : (0 : Int) < s.size := by omega
      have k4 : (bits BinOp.and IntKind.u8 ((s[0]'(by omega)).toNat : Int) 63 != 0) = true := by
        have := and63 ⟨(s[0]'(by omega)).toNat, (s[0]'(by omega)).toNat_lt⟩
        rw [this]
        simp only [segOk, decide_eq_false_iff_not, not_and] at h
        have h3 := h (by rw [← Lib.size_eq]; omega) (by rw [← Lib.size_eq]; omega)
        have h4 : s.data.toList.headD 0 = s[0]'(by omega) := by
          rw [List.headD_eq_head?_getD, List.head?_eq_getElem?]
          rw [List.getElem?_eq_getElem (by rw [← Lib.size_eq]; omega)]
          rfl
        rw [h4] at h3
        simpa using h3
      clear h
      go_enter Try.func27, Try.ntmps27
      go_wp2_with fail
      refine ret_cell_tmp rfl w.heap.size 57 (pieceC false ⟨#[]⟩ false) rfl (Blk.new w _ _) Try.underlying57 rfl (by kernel_rfl) rfl ?_
      exact ⟨rfl, (Below.refl _ _).alloc hb _, fun g cs t hg ht hB => hB.alloc _, HA0.out⟩
theorem Feed_any (s : ByteArray) (a base : Nat) (op : Bool) (xs : List UInt8) (w : World) (hx : xs.length ≤ 1030) (hb : base ≤ w.heap.size) (hA : AsmAt w base a op xs) :
    Calls Try.prog 27 #[.pointer (some ⟨a, 0, none⟩), .string s] w fun e w' => e = .returned (.tuple #[pv (feedF op xs s.data.toList).1, .int .i64 (feedF op xs s.data.toList).2.1]) ∧ Below base w w' ∧ Apart a w w' ∧
      AsmAt w' base a (feedF op xs s.data.toList).2.2.1 (feedF op xs s.data.toList).2.2.2 := by
  cases hs : segOk s.data.toList
  · unfold feedF
    rw [hs]
    exact Feed_bad s a base op xs w hs hb hA
  · have hs2 : 2 ≤ s.size ∧ s.size ≤ 200 ∧ (s.data.toList.headD 0).toNat % 64 = 0 := by
      have := of_decide_eq_true hs
      rwa [← Lib.size_eq] at this
    obtain ⟨h1, h2, h3⟩ := hs2
    have h4 : s.data.toList.headD 0 = s[0]'(by omega) := by
      rw [List.headD_eq_head?_getD, List.head?_eq_getElem?, List.getElem?_eq_getElem (by rw [← Lib.size_eq]; omega)]
      rfl
    have hlt := (s[0]'(by omega)).toNat_lt
    have hpl : (s.extract 1 s.size).data.toList = s.data.toList.drop 1 := by
      simp [ByteArray.data_extract, Array.toList_extract, List.extract_eq_take_drop]
      exact List.take_of_length_le (by simp)
    have hps : (s.extract 1 s.size).size ≤ 1000 := by simp; omega
    unfold feedF
    rw [hs, h4]
    rw [h4] at h3
    simp only [if_true]
    have hc : (s[0]'(by omega)).toNat = 0 ∨ (s[0]'(by omega)).toNat = 64 ∨ (s[0]'(by omega)).toNat = 128 ∨ (s[0]'(by omega)).toNat = 192 := by omega
    rcases hc with hz | hz | hz | hz
    · rw [hz, ← hpl]
      exact Feed_middle s a base op _ _ _ xs _ _ w h1 h2 hz hb hA (fun W hbW hAW => middle_any _ a base op xs W hps hx hbW hAW)
    · rw [hz, ← hpl]
      exact Feed_first s a base op _ _ _ xs _ _ w h1 h2 hz hb hA (fun W hbW hAW => first_any _ a base op xs W hps hbW hAW)
    · rw [hz, ← hpl]
      have hl := fun W hbW hAW => last_any _ a base op xs W hps hx hbW hAW
      have e2 : stepF op xs (s.extract 1 s.size).data.toList (128 / 64) = if (midF op xs (s.extract 1 s.size).data.toList).1 then ((true, (midF op xs (s.extract 1 s.size).data.toList).2.1, false), false, []) else ((false, [], (midF op xs (s.extract 1 s.size).data.toList).2.2), false, (midF op xs (s.extract 1 s.size).data.toList).2.1) := rfl
      rw [e2]
      cases hm : (midF op xs (s.extract 1 s.size).data.toList).1
      · rw [hm] at hl
        exact Feed_last s a base op _ _ _ xs _ _ w h1 h2 hz hb hA hl
      · rw [hm] at hl
        exact Feed_last s a base op _ _ _ xs _ _ w h1 h2 hz hb hA hl
    · rw [hz, ← hpl]
      exact Feed_only s a base op _ _ _ xs _ _ w h1 h2 hz hb hA (fun W hbW hAW => only_any _ a base op xs W hps hbW hAW)
end Go.Proofs.Ytebgehmgjafblaa
