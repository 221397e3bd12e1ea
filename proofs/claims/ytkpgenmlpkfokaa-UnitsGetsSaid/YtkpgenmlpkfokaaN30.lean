/- What is proved here: the walk of the laws' first look at the units. -/
import Derived.Test.YtkpgenmlpkfokaaN28
import Derived.Test.YtkpgenmlpkfokaaN29
set_option linter.unusedVariables false
set_option linter.unusedSimpArgs false
namespace Go.Proofs.Ytkpgenmlpkfokaa
open Go.RowKit
theorem cell_below {w w' : World} {B : Nat} (k : Below B w w') (hB : w.heap.size ≤ B) {p : Addr} {v : Value} (h : w.cell? p = some v) : w'.cell? p = some v := (k.cell (Nat.lt_of_lt_of_le (World.block_lt_of_cell? w p h) hB)).trans h
theorem validS_of {u : Un} (h1 : 1 ≤ u.kind ∧ u.kind ≤ 6) (h2 : 0 ≤ u.num ∧ u.num ≤ 65535) (h3 : fullU u.kind.toNat u = u) : validS u = validU u.kind.toNat u := by
  unfold validS
  rw [decide_eq_true h1, decide_eq_true h2, (sameU_iff _ _).2 h3]; rfl
def shA : Un := ⟨1, 1, ⟨#[102]⟩, 258, 0, 0, ⟨#[]⟩, 0, 0, false, []⟩
def shB : Un := ⟨5, 1, ⟨#[]⟩, 0, 0, 0, ⟨#[]⟩, 0, 0, true, [(0, 2), (5, 9)]⟩
def shC : Un := ⟨5, 1, ⟨#[]⟩, 0, 0, 0, ⟨#[]⟩, 0, 0, false, [(0, 2), (2, 3)]⟩
theorem shA_put : putS shA = ([1, 0, 1, 1, 2, 102, 96, 54], 0) := by
  have h : validS shA = true := (validS_of (by decide) (by decide) rfl).trans (by decide)
  exact (if_pos h).trans (by kernel_rfl)
theorem shB_put : putS shB = ([5, 0, 1, 1, 0, 0, 0, 2, 0, 5, 0, 9, 48, 100], 0) := by
  have h : validS shB = true := (validS_of (by decide) (by decide) rfl).trans (by decide)
  exact (if_pos h).trans (by kernel_rfl)
theorem shC_put : putS shC = ([], 2) := by
  have h : validS shC = false := (validS_of (by decide) (by decide) rfl).trans (by decide)
  unfold putS; rw [if_neg (by rw [h]; decide)]
theorem gaps_two (w : World) (g : Nat) (a b c d : Int) (hB : Blk w g [.int .i64 a, .int .i64 b, .int .i64 c, .int .i64 d] 47) : GapsAt w (.slice (some ⟨g, 0, none⟩) 2 2) [(a, b), (c, d)] := by
  refine ⟨_, _, rfl, fun i hi => ⟨g, 0, rfl, hB.lt, ?_⟩⟩
  have : i = 0 ∨ i = 1 := by simp at hi; omega
  rcases this with rfl | rfl
  · exact ⟨(hB.cell 0).trans rfl, (hB.cell 1).trans rfl⟩
  · exact ⟨(hB.cell 2).trans rfl, (hB.cell 3).trans rfl⟩
theorem s37_put1 (w : World) : Calls Try.prog 12 #[.agg #[.int .i64 1, .int .i64 1, .string ⟨#[102]⟩, .int .i64 258, .int .u32 0, .int .i64 0, .string ⟨#[]⟩, .int .i64 0, .int .i64 0, .bool false, .slice none 0 0]] w fun e w' => e = .returned (.tuple #[.string ⟨#[1, 0, 1, 1, 2, 102, 96, 54]⟩, .int .i64 0]) ∧ Below w.heap.size w w' := by
  have h1 := uPut_any shA (.slice none 0 0) w (by decide) (by decide) (by decide) ⟨by decide, by decide, by decide, by decide, by decide, by decide, by decide, by decide, by decide, by decide, by decide, by decide, by decide, by decide, fun i hi => absurd hi (Nat.not_lt_zero _)⟩ (GapsAt.nil w)
  rw [shA_put] at h1
  exact h1
theorem s37_put2 (w : World) (g : Nat) (hB : Blk w g [.int .i64 0, .int .i64 2, .int .i64 5, .int .i64 9] 47) : Calls Try.prog 12 #[.agg #[.int .i64 5, .int .i64 1, .string ⟨#[]⟩, .int .i64 0, .int .u32 0, .int .i64 0, .string ⟨#[]⟩, .int .i64 0, .int .i64 0, .bool true, .slice (some ⟨g, 0, none⟩) 2 2]] w fun e w' => e = .returned (.tuple #[.string ⟨#[5, 0, 1, 1, 0, 0, 0, 2, 0, 5, 0, 9, 48, 100]⟩, .int .i64 0]) ∧ Below w.heap.size w w' := by
  have h1 := uPut_any shB (.slice (some ⟨g, 0, none⟩) 2 2) w (by decide) (by decide) (by decide) ⟨by decide, by decide, by decide, by decide, by decide, by decide, by decide, by decide, by decide, by decide, by decide, by decide, by decide, by decide, by decide⟩ (gaps_two w g _ _ _ _ hB)
  rw [shB_put] at h1
  exact h1
theorem s37_put3 (w : World) (g : Nat) (hB : Blk w g [.int .i64 0, .int .i64 2, .int .i64 2, .int .i64 3] 47) : Calls Try.prog 12 #[.agg #[.int .i64 5, .int .i64 1, .string ⟨#[]⟩, .int .i64 0, .int .u32 0, .int .i64 0, .string ⟨#[]⟩, .int .i64 0, .int .i64 0, .bool false, .slice (some ⟨g, 0, none⟩) 2 2]] w fun e w' => e = .returned (.tuple #[.string ⟨#[]⟩, .int .i64 2]) ∧ Below w.heap.size w w' := by
  have h1 := uPut_any shC (.slice (some ⟨g, 0, none⟩) 2 2) w (by decide) (by decide) (by decide) ⟨by decide, by decide, by decide, by decide, by decide, by decide, by decide, by decide, by decide, by decide, by decide, by decide, by decide, by decide, by decide⟩ (gaps_two w g _ _ _ _ hB)
  rw [shC_put] at h1
  exact h1
theorem s37_cut (w : World) : Calls Try.prog 20 #[.int .i64 1, .string ⟨#[97, 98, 99, 100, 101]⟩, .int .i64 2] w fun e w' => ∃ g cap, e = .returned (.tuple #[.slice (some ⟨g, 0, none⟩) 3 cap, .int .i64 0]) ∧ Below w.heap.size w w' ∧ w'.cell? ⟨g, 27, none⟩ = some (.int .i64 4) ∧ w'.cell? ⟨g, 28, none⟩ = some (.string ⟨#[101]⟩) := by
  refine (uCut_any 1 ⟨#[97, 98, 99, 100, 101]⟩ 2 w).mono ?_
  rintro e w' ⟨v, rfl, hR, hL⟩
  have h : cutS 1 ⟨#[97, 98, 99, 100, 101]⟩ 2 = (cutL 1 ⟨#[97, 98, 99, 100, 101]⟩ 2 3, 0) := by kernel_rfl
  rw [h] at hR ⊢
  obtain ⟨g, cap, rfl, hg, hc⟩ := hR.cell 2 (by rw [cutL_length]; decide)
  exact ⟨g, cap, rfl, hL, (hc 5 (by decide)).trans (by kernel_rfl), (hc 6 (by decide)).trans (by kernel_rfl)⟩
theorem s37_get (w : World) : Calls Try.prog 17 #[.string ⟨#[0, 0, 0, 0, 0, 0]⟩] w fun e w' => ∃ a cap, e = .returned (.tuple #[.agg #[.int .i64 0, .int .i64 0, .string ⟨#[]⟩, .int .i64 0, .int .u32 0, .int .i64 0, .string ⟨#[]⟩, .int .i64 0, .int .i64 0, .bool false, .slice a 0 cap], .int .i64 370]) ∧ Below w.heap.size w w' := by
  refine (uGet_any ⟨#[0, 0, 0, 0, 0, 0]⟩ w).mono ?_
  rintro e w' ⟨gv, rfl, hG, hL⟩
  have h : getS ⟨#[0, 0, 0, 0, 0, 0]⟩ = (Un.zero, 370) := by
    unfold getS
    rw [if_neg (by decide), if_pos (of_decide_eq_true (by kernel_rfl))]
  rw [h] at hG ⊢
  obtain ⟨a, cap, rfl, -⟩ := hG
  exact ⟨a, cap, rfl, hL⟩
set_option maxHeartbeats 8000000 in
set_option maxRecDepth 100000 in
theorem shown37_any (w : World) : Calls Try.prog 9 #[] w fun e w' => e = .returned (.bool true) ∧ Below w.heap.size w w' := by
  go_enter Try.func9, Try.ntmps9
  go_wp2_with fail
  refine (s37_put1 w).mono ?_
  rintro e w1 ⟨rfl, hL1⟩
  have HL1 := Lib.hid hL1; clear hL1
  go_wp2_with fail
  obtain ⟨wb, hwb⟩ : ∃ wb, wb = w1.heap.size := ⟨_, rfl⟩
  have HB := Lib.hid (show Blk (w1.alloc (Obj.cells #[.int .i64 0, .int .i64 2, .int .i64 5, .int .i64 9] 47)) wb [.int .i64 0, .int .i64 2, .int .i64 5, .int .i64 9] 47 by rw [hwb]; exact Blk.new w1 _ 47)
  rw [← hwb]
  have HL1 := Lib.hid (HL1.out.alloc HL1.out.size (Obj.cells #[.int .i64 0, .int .i64 2, .int .i64 5, .int .i64 9] 47))
  clear hwb
  refine (s37_put2 _ wb HB.out).mono ?_
  rintro e w2 ⟨rfl, hL2⟩
  have HL2 := Lib.hid (HL1.out.trans (hL2.mono HL1.out.size)); clear hL2 HL1 HB
  go_wp2_with fail
  obtain ⟨wb, hwb⟩ : ∃ wb, wb = w2.heap.size := ⟨_, rfl⟩
  have HB := Lib.hid (show Blk (w2.alloc (Obj.cells #[.int .i64 0, .int .i64 2, .int .i64 2, .int .i64 3] 47)) wb [.int .i64 0, .int .i64 2, .int .i64 2, .int .i64 3] 47 by rw [hwb]; exact Blk.new w2 _ 47)
  rw [← hwb]
  have HL2 := Lib.hid (HL2.out.alloc HL2.out.size (Obj.cells #[.int .i64 0, .int .i64 2, .int .i64 2, .int .i64 3] 47))
  clear hwb
  refine (s37_put3 _ wb HB.out).mono ?_
  rintro e w3 ⟨rfl, hL3⟩
  have HL3 := Lib.hid (HL2.out.trans (hL3.mono HL2.out.size)); clear hL3 HL2 HB
  go_wp2_with fail
  refine (s37_cut _).mono ?_
  rintro e w4 ⟨g, cap, rfl, hL4, c1, c2⟩
  have HL4 := Lib.hid (HL3.out.trans (hL4.mono HL3.out.size)); clear hL4 HL3
  go_wp2_with fail
  refine (s37_get _).mono ?_
  rintro e w5 ⟨a5, cap5, rfl, hL5⟩
  have c1 := cell_below hL5 (Nat.le_refl _) c1
  have c2 := cell_below hL5 (Nat.le_refl _) c2
  have hLa := (Below.refl w5.heap.size w5).alloc (Nat.le_refl _) (Obj.cells #[.int .i64 0, .int .i64 0, .string ⟨#[]⟩, .int .i64 0, .int .u32 0, .int .i64 0, .string ⟨#[]⟩, .int .i64 0, .int .i64 0, .bool false, .slice a5 0 cap5] 25)
  have d1 := cell_below hLa (Nat.le_refl _) c1
  have d2 := cell_below hLa (Nat.le_refl _) c2
  have HL5 := Lib.hid ((HL4.out.trans (hL5.mono HL4.out.size)).alloc (HL4.out.trans (hL5.mono HL4.out.size)).size (Obj.cells #[.int .i64 0, .int .i64 0, .string ⟨#[]⟩, .int .i64 0, .int .u32 0, .int .i64 0, .string ⟨#[]⟩, .int .i64 0, .int .i64 0, .bool false, .slice a5 0 cap5] 25)); clear hL5 HL4 hLa c1 c2
  have hx : (ByteArray.mk #[1, 0, 1, 1, 2, 102, 96, 54]).extract 0 6 = ByteArray.mk #[1, 0, 1, 1, 2, 102] := by kernel_rfl
  have hy : (ByteArray.mk #[5, 0, 1, 1, 0, 0, 0, 2, 0, 5, 0, 9, 48, 100]).extract 0 12 = ByteArray.mk #[5, 0, 1, 1, 0, 0, 0, 2, 0, 5, 0, 9] := by kernel_rfl
  go_wp2_with fail
  go_ret
  exact ⟨rfl, HL5.out⟩
end Go.Proofs.Ytkpgenmlpkfokaa
