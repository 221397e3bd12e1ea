/- What is proved here: the walk of the laws' first look at the frames and the assembler. -/
import Derived.Test.YtebgehmgjafblaaA7
import Derived.Test.YtebgehmgjafblaaT5
import Derived.Test.YtebgehmgjafblaaT6
import Derived.Test.YtebgehmgjafblaaT9
set_option linter.unusedVariables false
set_option linter.unusedSimpArgs false
namespace Go.Proofs.Ytebgehmgjafblaa
open Go.RowKit
set_option maxHeartbeats 1000000 in
set_option maxRecDepth 100000 in
theorem NewA_ok (w : World) : Calls Try.prog 26 #[] w fun e w' => e = .returned (.pointer (some ⟨w.heap.size, 0, none⟩)) ∧ w' = w.alloc (Obj.cells #[.bool true, .bool false, .slice none 0 0] 55) := by
  go_enter Try.func26, Try.ntmps26
  go_wp2_with fail
  go_ret
  exact ⟨rfl, rfl⟩
theorem new_asm (w : World) : AsmAt (w.alloc (Obj.cells #[.bool true, .bool false, .slice none 0 0] 55)) w.heap.size w.heap.size false [] :=
  ⟨Nat.le_refl _, .slice none 0 0, Blk.new w [.bool true, .bool false, .slice none 0 0] 55, row_nil _ _⟩
theorem cell_below {w w' : World} {B : Nat} (k : Below B w w') (hB : w.heap.size ≤ B) {p : Addr} {v : Value} (h : w.cell? p = some v) : w'.cell? p = some v := (k.cell (Nat.lt_of_lt_of_le (World.block_lt_of_cell? w p h) hB)).trans h
theorem s12_put (w : World) : Calls Try.prog 29 #[.agg #[.int .i64 1, .int .i64 2, .bool true, .bool false, .int .i64 3, .string ⟨#[65]⟩]] w fun e w' => e = .returned (.tuple #[.string ⟨#[32, 1, 8, 7, 3, 65, 156, 172]⟩, .int .i64 0]) ∧ Below w.heap.size w w' := by
  have h := Put_any (Tc.mk 1 2 true false 3 ⟨#[65]⟩) w
  rw [show (Tc.mk 1 2 true false 3 ⟨#[65]⟩).putV = .tuple #[.string ⟨#[32, 1, 8, 7, 3, 65, 156, 172]⟩, .int .i64 0] by kernel_rfl] at h
  exact h
theorem s12_set (w : World) : Calls Try.prog 33 #[.int .i64 1, .int .i64 2, .int .i64 7] w fun e w' => e = .returned (.tuple #[.agg #[.int .i64 1, .int .i64 2, .bool true, .bool true, .int .i64 0, .string ⟨#[130, 0, 7]⟩], .int .i64 0]) ∧ Below w.heap.size w w' := by
  have h := SetNext_any 1 2 7 w
  rw [show setNextV 1 2 7 = .tuple #[.agg #[.int .i64 1, .int .i64 2, .bool true, .bool true, .int .i64 0, .string ⟨#[130, 0, 7]⟩], .int .i64 0] by kernel_rfl] at h
  exact h
theorem s12_ctl (w : World) : Calls Try.prog 35 #[.agg #[.int .i64 1, .int .i64 2, .bool true, .bool true, .int .i64 0, .string ⟨#[130, 0, 7]⟩]] w fun e w' => e = .returned (.tuple #[.bool false, .int .i64 7, .bool true]) ∧ Below w.heap.size w w' := by
  have h := Control_any (Tc.mk 1 2 true true 0 ⟨#[130, 0, 7]⟩) w
  rw [show (Tc.mk 1 2 true true 0 ⟨#[130, 0, 7]⟩).ctlV = .tuple #[.bool false, .int .i64 7, .bool true] by kernel_rfl] at h
  exact h
theorem s12_seg (w : World) : Calls Try.prog 22 #[.string ⟨#[97, 98, 99, 100, 101]⟩, .int .i64 2] w fun e w' => ∃ g cap, e = .returned (.tuple #[.slice (some ⟨g, 0, none⟩) 3 cap, .int .i64 0]) ∧ Below w.heap.size w w' ∧ w'.cell? ⟨g, 0, none⟩ = some (.string ⟨#[64, 97, 98]⟩) ∧ w'.cell? ⟨g, 1, none⟩ = some (.string ⟨#[0, 99, 100]⟩) ∧ w'.cell? ⟨g, 2, none⟩ = some (.string ⟨#[128, 101]⟩) := by
  refine (Segments_ok ⟨#[97, 98, 99, 100, 101]⟩ 2 w (by decide) (by decide) (by omega) (by omega)).mono ?_
  rintro e w' ⟨v, rfl, hR, hL⟩
  rw [show segList ⟨#[97, 98, 99, 100, 101]⟩ 2 (segN (ByteArray.size ⟨#[97, 98, 99, 100, 101]⟩) 2) = [⟨#[64, 97, 98]⟩, ⟨#[0, 99, 100]⟩, ⟨#[128, 101]⟩] by kernel_rfl] at hR
  obtain ⟨a, cap, rfl, h⟩ := srow_form hR
  obtain ⟨g, rfl, h0⟩ := h 0 (by simp)
  obtain ⟨g1, e1, h1⟩ := h 1 (by simp)
  obtain ⟨g2, e2, h2⟩ := h 2 (by simp)
  have e1' : g1 = g := by injection e1 with e1; injection e1 with e1; exact e1.symm
  have e2' : g2 = g := by injection e2 with e2; injection e2 with e2; exact e2.symm
  subst e1' e2'
  exact ⟨_, cap, rfl, hL, h0, h1, h2⟩
theorem s12_feed0 (a base : Nat) (w : World) (hb : base ≤ w.heap.size) (hA : AsmAt w base a false []) : Calls Try.prog 27 #[.pointer (some ⟨a, 0, none⟩), .string ⟨#[64, 97, 98]⟩] w fun e w' => e = .returned (.tuple #[.agg #[.bool false, .string ⟨#[]⟩, .int .i64 0, .bool false], .int .i64 0]) ∧ Below base w w' ∧ AsmAt w' base a true [97, 98] := by
  have h := Feed_any ⟨#[64, 97, 98]⟩ a base false [] w (by simp) hb hA
  rw [show feedF false [] (ByteArray.mk #[64, 97, 98]).data.toList = ((false, [], false), 0, true, [97, 98]) by kernel_rfl] at h
  exact h.mono fun e w' ⟨h1, h2, h3, h4⟩ => ⟨h1, h2, h4⟩
theorem s12_feed1 (a base : Nat) (w : World) (hb : base ≤ w.heap.size) (hA : AsmAt w base a true [97, 98]) : Calls Try.prog 27 #[.pointer (some ⟨a, 0, none⟩), .string ⟨#[0, 99, 100]⟩] w fun e w' => e = .returned (.tuple #[.agg #[.bool false, .string ⟨#[]⟩, .int .i64 0, .bool false], .int .i64 0]) ∧ Below base w w' ∧ AsmAt w' base a true [97, 98, 99, 100] := by
  have h := Feed_any ⟨#[0, 99, 100]⟩ a base true [97, 98] w (by simp) hb hA
  rw [show feedF true [97, 98] (ByteArray.mk #[0, 99, 100]).data.toList = ((false, [], false), 0, true, [97, 98, 99, 100]) by kernel_rfl] at h
  exact h.mono fun e w' ⟨h1, h2, h3, h4⟩ => ⟨h1, h2, h4⟩
theorem s12_feed2 (a base : Nat) (w : World) (hb : base ≤ w.heap.size) (hA : AsmAt w base a true [97, 98, 99, 100]) : Calls Try.prog 27 #[.pointer (some ⟨a, 0, none⟩), .string ⟨#[128, 101]⟩] w fun e w' => e = .returned (.tuple #[.agg #[.bool true, .string ⟨#[97, 98, 99, 100, 101]⟩, .int .i64 0, .bool false], .int .i64 0]) ∧ Below base w w' := by
  have h := Feed_any ⟨#[128, 101]⟩ a base true [97, 98, 99, 100] w (by simp) hb hA
  rw [show feedF true [97, 98, 99, 100] (ByteArray.mk #[128, 101]).data.toList = ((true, [97, 98, 99, 100, 101], false), 0, false, []) by kernel_rfl] at h
  exact h.mono fun e w' ⟨h1, h2, h3, h4⟩ => ⟨h1, h2⟩
set_option maxHeartbeats 8000000 in
set_option maxRecDepth 100000 in
theorem shown12_any (w : World) : Calls Try.prog 21 #[] w fun e w' => e = .returned (.bool true) ∧ Below w.heap.size w w' := by
  go_enter Try.func21, Try.ntmps21
  go_wp2_with fail
  refine (s12_put _).mono ?_
  rintro e w1 ⟨rfl, hL1⟩
  have HL1 := Lib.hid hL1; clear hL1
  go_wp2_with fail
  refine (s12_seg _).mono ?_
  rintro e w2 ⟨g, cap, rfl, hL2, c0, c1, c2⟩
  have HL2 := Lib.hid (HL1.out.trans (hL2.mono HL1.out.size)); clear hL2 HL1
  go_wp2_with fail
  refine (s12_set _).mono ?_
  rintro e w3 ⟨rfl, hL3⟩
  have HL3 := Lib.hid (HL2.out.trans (hL3.mono HL2.out.size))
  have HC0 := Lib.hid (cell_below hL3 (Nat.le_refl _) c0)
  have HC1 := Lib.hid (cell_below hL3 (Nat.le_refl _) c1)
  have HC2 := Lib.hid (cell_below hL3 (Nat.le_refl _) c2)
  clear c0 c1 c2 hL3 HL2
  have HLA := Lib.hid (HL3.out.alloc HL3.out.size (Obj.cells #[.int .i64 1, .int .i64 2, .bool true, .bool true, .int .i64 0, .string ⟨#[130, 0, 7]⟩] 30))
  have hLA := (Below.refl w3.heap.size w3).alloc (Nat.le_refl _) (Obj.cells #[.int .i64 1, .int .i64 2, .bool true, .bool true, .int .i64 0, .string ⟨#[130, 0, 7]⟩] 30)
  have HD0 := Lib.hid (cell_below hLA (Nat.le_refl _) HC0.out)
  have HD1 := Lib.hid (cell_below hLA (Nat.le_refl _) HC1.out)
  have HD2 := Lib.hid (cell_below hLA (Nat.le_refl _) HC2.out)
  clear HC0 HC1 HC2 hLA HL3
  go_wp2_with fail
  refine (s12_ctl _).mono ?_
  rintro e w4 ⟨rfl, hL4⟩
  have HL4 := Lib.hid (HLA.out.trans (hL4.mono HLA.out.size))
  have HC0 := Lib.hid (cell_below hL4 (Nat.le_refl _) HD0.out)
  have HC1 := Lib.hid (cell_below hL4 (Nat.le_refl _) HD1.out)
  have HC2 := Lib.hid (cell_below hL4 (Nat.le_refl _) HD2.out)
  clear HD0 HD1 HD2 hL4 HLA
  go_wp2_with fail
  refine (NewA_ok _).mono ?_
  rintro e w5 ⟨rfl, hw5⟩
  have hL5 : Below w4.heap.size w4 w5 := by rw [hw5]; exact (Below.refl _ _).alloc (Nat.le_refl _) _
  have hA5 : AsmAt w5 w4.heap.size w4.heap.size false [] := by rw [hw5]; exact new_asm w4
  obtain ⟨b, hb⟩ : ∃ b, b = w4.heap.size := ⟨_, rfl⟩
  have HL5 := Lib.hid (HL4.out.trans (hL5.mono HL4.out.size))
  have c0 := cell_below hL5 (Nat.le_refl _) HC0.out
  have c1 := cell_below hL5 (Nat.le_refl _) HC1.out
  have c2 := cell_below hL5 (Nat.le_refl _) HC2.out
  have hg : g < w4.heap.size := World.block_lt_of_cell? w4 ⟨g, 0, none⟩ HC0.out
  have hb1 : b ≤ w5.heap.size := by rw [hb]; exact hL5.size
  have hb2 : w.heap.size ≤ b := by rw [hb]; exact HL4.out.size
  rw [← hb] at hA5 hg ⊢
  have HA5 := Lib.hid hA5
  clear hw5 hL5 HC0 HC1 HC2 HL4 hb hA5
  have hx : (ByteArray.mk #[32, 1, 8, 7, 3, 65, 156, 172]).extract 0 5 = ByteArray.mk #[32, 1, 8, 7, 3] := by kernel_rfl
  go_wp2_with fail
  refine (s12_feed0 b b _ hb1 HA5.out).mono ?_
  rintro e w6 ⟨rfl, hL6, hA6⟩
  have HL6 := Lib.hid (HL5.out.trans (hL6.mono hb2))
  have d1 := (hL6.cell (p := ⟨g, 1, none⟩) hg).trans c1
  have d2 := (hL6.cell (p := ⟨g, 2, none⟩) hg).trans c2
  have hb3 : b ≤ w6.heap.size := Nat.le_trans hb1 hL6.size
  have HA6 := Lib.hid hA6
  clear c0 c1 c2 hL6 hA6 HL5 HA5 hb1
  go_wp2_with fail
  refine (s12_feed1 b b _ hb3 HA6.out).mono ?_
  rintro e w7 ⟨rfl, hL7, hA7⟩
  have HL7 := Lib.hid (HL6.out.trans (hL7.mono hb2))
  have c2 := (hL7.cell (p := ⟨g, 2, none⟩) hg).trans d2
  have hb4 : b ≤ w7.heap.size := Nat.le_trans hb3 hL7.size
  have HA7 := Lib.hid hA7
  clear d1 d2 hL7 hA7 HL6 HA6 hb3
  go_wp2_with fail
  refine (s12_feed2 b b _ hb4 HA7.out).mono ?_
  rintro e w8 ⟨rfl, hL8⟩
  have HL8 := Lib.hid (HL7.out.trans (hL8.mono hb2))
  clear c2 hL8 HL7 HA7 hb4
  go_wp2_with fail
  go_ret
  exact ⟨rfl, HL8.out.alloc HL8.out.size _⟩
end Go.Proofs.Ytebgehmgjafblaa
