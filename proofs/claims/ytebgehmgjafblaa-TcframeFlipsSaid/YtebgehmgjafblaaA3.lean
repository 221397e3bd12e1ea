/- What is proved here: the walks of the assembler's methods for middle and last parts. -/
import Derived.Test.YtebgehmgjafblaaA2
set_option linter.unusedVariables false
set_option linter.unusedSimpArgs false
namespace Go.Proofs.Ytebgehmgjafblaa
open Go.RowKit
def midF (op : Bool) (xs part : List UInt8) : Bool × List UInt8 × Bool :=
  if op then (if (xs ++ part).length ≤ 1030 then (true, xs ++ part, false) else (false, [], true)) else (false, xs, false)
set_option maxHeartbeats 4000000 in
set_option maxRecDepth 100000 in
theorem middle_no (part : ByteArray) (a base : Nat) (xs : List UInt8) (w : World) (hb : base ≤ w.heap.size) (hA : AsmAt w base a false xs) :
    Calls Try.prog 80 #[.pointer (some ⟨a, 0, none⟩), .string part] w fun e w' => e = .returned (pieceV false .empty false) ∧ Below base w w' ∧ Apart a w w' ∧ AsmAt w' base a false xs := by
  obtain ⟨hba, v, hB, hR⟩ := hA
  have hal := hB.lt
  have HB0 := Lib.hid (hB.alloc (Obj.cells #[.bool false, .string ⟨#[]⟩, .int .i64 0, .bool false] 57))
  have c0 := HB0.out.cell 0
  have c1 := HB0.out.cell 1
  have c2 := HB0.out.cell 2
  simp only [List.getElem?_cons_zero, List.getElem?_cons_succ] at c0 c1 c2
  have HA := Lib.hid (asm_below ⟨hba, v, hB, hR⟩ ((Below.refl w.heap.size w).alloc (Nat.le_refl _) (Obj.cells #[.bool false, .string ⟨#[]⟩, .int .i64 0, .bool false] 57)) (Nat.le_refl _))
  clear hB hR
  go_enter Try.func80, Try.ntmps80
  go_wp2_with fail
  refine ret_cell rfl w.heap.size 57 (pieceC false .empty false) rfl (Blk.new w _ _) Try.underlying57 rfl (by kernel_rfl) rfl ?_
  exact ⟨rfl, (Below.refl _ _).alloc hb _, fun g cs t hg ht hB => hB.alloc _, HA.out⟩
theorem row_ne2 {w : World} {base a : Nat} {v : Value} {xs : List UInt8} {cs : List Value} {t : TypeId} (hR : Row w base v xs) (hB : Blk w a cs t) (ht : ¬ t = 5) : ∀ g, v.ownBlock = some g → g ≠ a := by
  intro g hg
  rcases hR with ⟨rfl, _⟩ | ⟨g', cap, cur, fr, rfl, hb, hh, _⟩
  · cases hg
  · have e : g' = g := by injection hg
    subst e
    intro e2
    subst e2
    rw [hB] at hh
    injection hh with hh
    injection hh with _ h2
    exact absurd h2 ht
set_option maxHeartbeats 4000000 in
set_option maxRecDepth 100000 in
theorem middle_yes (part : ByteArray) (a base : Nat) (xs : List UInt8) (w : World) (hp : part.size ≤ 1000) (hx : xs.length ≤ 1030) (hb : base ≤ w.heap.size) (hA : AsmAt w base a true xs) :
    Calls Try.prog 80 #[.pointer (some ⟨a, 0, none⟩), .string part] w fun e w' => e = .returned (pieceV false .empty (midF true xs part.data.toList).2.2) ∧ Below base w w' ∧ Apart a w w' ∧ AsmAt w' base a (midF true xs part.data.toList).1 (midF true xs part.data.toList).2.1 := by
  obtain ⟨hba, v, hB, hR⟩ := hA
  have hal := hB.lt
  have hlen : (xs ++ part.data.toList).length = xs.length + part.size := by simp
  obtain ⟨m, hm⟩ : ∃ m, m = (xs ++ part.data.toList).length := ⟨_, rfl⟩
  have hmf : midF true xs part.data.toList = if m ≤ 1030 then (true, xs ++ part.data.toList, false) else (false, [], true) := by rw [hm]; rfl
  have hm2 : m ≤ 3000 := by omega
  obtain ⟨oa, oc, rfl⟩ := row_form hR
  have hne1 : a ≠ w.heap.size := by omega
  have hne2 : w.heap.size ≠ a := by omega
  have HB0 := Lib.hid (hB.alloc (Obj.cells #[.bool false, .string ⟨#[]⟩, .int .i64 0, .bool false] 57))
  have HR0 := Lib.hid (row_keep hR ((Keep.refl [] w).alloc (Obj.cells #[.bool false, .string ⟨#[]⟩, .int .i64 0, .bool false] 57)) (by simp))
  have HZ0 := Lib.hid (Blk.new w (pieceC false .empty false) 57)
  have HL0 := Lib.hid ((Below.refl base w).alloc hb (Obj.cells #[.bool false, .string ⟨#[]⟩, .int .i64 0, .bool false] 57))
  have hrn := row_ne hR hB
  have c0 := HB0.out.cell 0
  have c1 := HB0.out.cell 1
  have c2 := HB0.out.cell 2
  simp only [List.getElem?_cons_zero, List.getElem?_cons_succ] at c0 c1 c2
  have HMF := Lib.hid hmf; have HM := Lib.hid hm
  clear hB hR hmf hm hlen
  rw [HMF.out]
  by_cases hle : m ≤ 1030
  · rw [if_pos hle]
    go_enter Try.func80, Try.ntmps80
    go_wp2_with (at_builtin; refine append_string _ rfl _ _ rfl base _ _ rfl HR0.out part rfl ?c1 ?c2 ?_)
    case c1 => omega
    case c2 => simp; omega
    intro v2 w2 hR2 hK2
    have HB2 := Lib.hid (HB0.out.keep hK2 (fun h => row_ne2 HR0.out HB0.out (by decide) a (by rwa [Option.mem_toList] at h) rfl))
    have HZ2 := Lib.hid (HZ0.out.keep hK2 (fun h => row_ne2 HR0.out HZ0.out (by decide) w.heap.size (by rwa [Option.mem_toList] at h) rfl))
    have HAP := Lib.hid (show Apart a w w2 from fun g cs t hg ht hB => (hB.alloc _).keep hK2 (fun h => row_ne2 HR0.out (hB.alloc _) ht g (by rwa [Option.mem_toList] at h) rfl))
    have HL2 := Lib.hid (HL0.out.trans (hK2.toBelowAt (by have := HL0.out.size; omega) (fun i hi => by rw [Option.mem_toList] at hi; exact (row_lt HR0.out i hi).1)))
    obtain ⟨oa2, oc2, hv2⟩ := row_form hR2
    rw [← HM.out] at hv2
    subst hv2
    have hq1 := row_ne2 hR2 HB2.out (by decide)
    have hq2 := row_ne2 hR2 HZ2.out (by decide)
    have HR2 := Lib.hid hR2
    clear hR2 hK2 c0 c1 c2
    have c0 := HB2.out.cell 0
    have c1 := HB2.out.cell 1
    have c2 := HB2.out.cell 2
    simp only [List.getElem?_cons_zero, List.getElem?_cons_succ] at c0 c1 c2
    have f0 := HB2.out.free 0
    have f1 := HB2.out.free 1
    have f2 := HB2.out.free 2
    have z0 := HZ2.out.cell 0
    have z1 := HZ2.out.cell 1
    have z2 := HZ2.out.cell 2
    have z3 := HZ2.out.cell 3
    simp only [pieceC, List.getElem?_cons_zero, List.getElem?_cons_succ] at z0 z1 z2 z3
    have y0 := HZ2.out.free 0
    have y1 := HZ2.out.free 1
    have y2 := HZ2.out.free 2
    have y3 := HZ2.out.free 3
    go_wp2_with fail
    refine ret_cell rfl w.heap.size 57 (pieceC false .empty false) rfl (((((HZ2.out.set_far hne2 _).set 0 _).set 1 _).set 2 _).set 3 _) Try.underlying57 rfl (by kernel_rfl) rfl ?_
    refine ⟨rfl, (((((HL2.out.setCell hba _).setCell hb _).setCell hb _).setCell hb _).setCell hb _), fun g cs t hg ht hB => ((((((HAP.out g cs t hg ht hB).set_far hg _).set_far (Nat.ne_of_lt hB.lt) _).set_far (Nat.ne_of_lt hB.lt) _).set_far (Nat.ne_of_lt hB.lt) _).set_far (Nat.ne_of_lt hB.lt) _), hba, _, (((((HB2.out.set 2 _).set_far hne1 _).set_far hne1 _).set_far hne1 _).set_far hne1 _), ?_⟩
    refine row_keep HR2.out ((((((Keep.refl [a, w.heap.size] _).setCell (.inl (by simp)) _).setCell (.inl (by simp)) _).setCell (.inl (by simp)) _).setCell (.inl (by simp)) _).setCell (.inl (by simp)) _) ?_
    intro g hg
    have h1 := hq1 g hg
    have h2 := hq2 g hg
    simp; omega
  · rw [if_neg hle]
    go_enter Try.func80, Try.ntmps80
    go_wp2_with (at_builtin; refine append_string _ rfl _ _ rfl base _ _ rfl HR0.out part rfl ?c1 ?c2 ?_)
    case c1 => omega
    case c2 => simp; omega
    intro v2 w2 hR2 hK2
    have HB2 := Lib.hid (HB0.out.keep hK2 (fun h => row_ne2 HR0.out HB0.out (by decide) a (by rwa [Option.mem_toList] at h) rfl))
    have HZ2 := Lib.hid (HZ0.out.keep hK2 (fun h => row_ne2 HR0.out HZ0.out (by decide) w.heap.size (by rwa [Option.mem_toList] at h) rfl))
    have HAP := Lib.hid (show Apart a w w2 from fun g cs t hg ht hB => (hB.alloc _).keep hK2 (fun h => row_ne2 HR0.out (hB.alloc _) ht g (by rwa [Option.mem_toList] at h) rfl))
    have HL2 := Lib.hid (HL0.out.trans (hK2.toBelowAt (by have := HL0.out.size; omega) (fun i hi => by rw [Option.mem_toList] at hi; exact (row_lt HR0.out i hi).1)))
    obtain ⟨oa2, oc2, hv2⟩ := row_form hR2
    rw [← HM.out] at hv2
    subst hv2
    have hq1 := row_ne2 hR2 HB2.out (by decide)
    have hq2 := row_ne2 hR2 HZ2.out (by decide)
    have HR2 := Lib.hid hR2
    clear hR2 hK2 c0 c1 c2
    have c0 := HB2.out.cell 0
    have c1 := HB2.out.cell 1
    have c2 := HB2.out.cell 2
    simp only [List.getElem?_cons_zero, List.getElem?_cons_succ] at c0 c1 c2
    have f0 := HB2.out.free 0
    have f1 := HB2.out.free 1
    have f2 := HB2.out.free 2
    have z0 := HZ2.out.cell 0
    have z1 := HZ2.out.cell 1
    have z2 := HZ2.out.cell 2
    have z3 := HZ2.out.cell 3
    simp only [pieceC, List.getElem?_cons_zero, List.getElem?_cons_succ] at z0 z1 z2 z3
    have y0 := HZ2.out.free 0
    have y1 := HZ2.out.free 1
    have y2 := HZ2.out.free 2
    have y3 := HZ2.out.free 3
    go_wp2_with fail
    refine ret_cell rfl w.heap.size 57 (pieceC false .empty true) rfl (((((((HZ2.out.set_far hne2 _).set_far hne2 _).set_far hne2 _).set 0 _).set 1 _).set 2 _).set 3 _) Try.underlying57 rfl (by kernel_rfl) rfl ?_
    exact ⟨rfl, (((((((HL2.out.setCell hba _).setCell hba _).setCell hba _).setCell hb _).setCell hb _).setCell hb _).setCell hb _), fun g cs t hg ht hB => ((((((((HAP.out g cs t hg ht hB).set_far hg _).set_far hg _).set_far hg _).set_far (Nat.ne_of_lt hB.lt) _).set_far (Nat.ne_of_lt hB.lt) _).set_far (Nat.ne_of_lt hB.lt) _).set_far (Nat.ne_of_lt hB.lt) _), hba, _, (((((((HB2.out.set 2 _).set 1 _).set 2 _).set_far hne1 _).set_far hne1 _).set_far hne1 _).set_far hne1 _), row_nil _ _⟩
theorem middle_any (part : ByteArray) (a base : Nat) (op : Bool) (xs : List UInt8) (w : World) (hp : part.size ≤ 1000) (hx : xs.length ≤ 1030) (hb : base ≤ w.heap.size) (hA : AsmAt w base a op xs) :
    Calls Try.prog 80 #[.pointer (some ⟨a, 0, none⟩), .string part] w fun e w' => e = .returned (pieceV false .empty (midF op xs part.data.toList).2.2) ∧ Below base w w' ∧ Apart a w w' ∧ AsmAt w' base a (midF op xs part.data.toList).1 (midF op xs part.data.toList).2.1 := by
  cases op
  · exact middle_no part a base xs w hb hA
  · exact middle_yes part a base xs w hp hx hb hA
end Go.Proofs.Ytebgehmgjafblaa
