/- What is proved here: the walk of Seal of sealed commands, where it seals. -/
import Derived.Test.YtincoocagfegfaaU3
import Derived.Test.YtincoocagfegfaaStep
set_option linter.unusedVariables false
set_option linter.unusedSimpArgs false
namespace Go.Proofs.Ytincoocagfegfaa
open Go.RowKit
theorem cells4 {W : World} {g : Nat} {a b c d : Value} {t : TypeId} (h : Blk W g [a, b, c, d] t) : W.cell? ⟨g, 0, none⟩ = some a ∧ W.cell? ⟨g, 1, none⟩ = some b ∧ W.cell? ⟨g, 2, none⟩ = some c ∧ W.cell? ⟨g, 3, none⟩ = some d := ⟨h.cell 0, h.cell 1, h.cell 2, h.cell 3⟩
theorem byte_new (a : Int) (h0 : 0 ≤ a) (h1 : a ≤ 255) (W : World) : (W.alloc (.cells #[.int .u8 (IntKind.u8.wrap a)] 5)).cell? ⟨W.heap.size, 0, none⟩ = some (vb (chB a)) := by
  have hw : IntKind.u8.wrap a = a := by rw [IntKind.wrap_u8']; omega
  rw [hw]
  have := (Blk.new W [vb (chB a)] 5).cell 0
  unfold vb at this
  rw [← chB_int a h0 h1] at this
  unfold vb
  rw [← chB_int a h0 h1]
  exact this
theorem app8_new (n : BitVec 64) (W : World) : Calls Try.prog 19 #[.slice none 0 0, .int .u64 (w64 n), .int .i64 8] W fun e w' => ∃ v', e = .returned v' ∧ Row w' W.heap.size v' (be8 n) ∧ Below W.heap.size W w' := by
  have h := aapp_any W.heap.size (.slice none 0 0) [] n 0 8 W (by simp) (by simp) (Nat.le_refl _) (by simp) (row_nil _ _)
  simpa using h
set_option maxHeartbeats 8000000 in
set_option maxRecDepth 100000 in
theorem aSeal_ok (key : ByteArray) (c : Cm) (w : World) (hk : key.size = 16) (hc : c.ok) : Calls Try.prog 9 #[.string key, c.val] w fun e w' => e = .returned (.tuple #[strOf (sealL key.data.toList c), .int .i64 0]) ∧ Below w.heap.size w w' := by
  obtain ⟨ch, n, op, args⟩ := c
  obtain ⟨h1, h2, h3, h4, h5, h6⟩ := hc
  simp only at h1 h2 h3 h4 h5 h6
  simp only [Cm.val]
  have HC := Lib.hid (show sealL key.data.toList ⟨ch, n, op, args⟩ = be8 n ++ [chB op] ++ args.data.toList ++ sumL key.data.toList ch (be8 n ++ [chB op] ++ args.data.toList) from rfl)
  have HL := Lib.hid ((Below.refl w.heap.size w).alloc (Nat.le_refl _) (Obj.cells #[.int .i64 ch, .int .u64 (w64 n), .int .i64 op, .string args] 24))
  have HX := Lib.hid (Blk.new w [.int .i64 ch, .int .u64 (w64 n), .int .i64 op, .string args] 24)
  have HO := Lib.hid (chB_int op h4 h5)
  have HSUM := Lib.hid (fun b w hb => asum_any key ch b w hk h1 h2 hb)
  have HA := Lib.hid (app8_new n)
  have d0 : ((key.size : Int) != 16) = false := by rw [hk]; rfl
  have d1 : decide (ch < 0) = false := by simp; omega
  have d2 : decide (8 ≤ ch) = false := by simp; omega
  have d3 : (w64 n == 0) = false := by rw [beq_eq_false_iff_ne]; exact w64_ne n h3
  have d4 : decide (op < 0) = false := by simp; omega
  have d5 : decide (255 < op) = false := by simp; omega
  have d6 : decide (180 < (args.size : Int)) = false := by simp; omega
  clear hk h3
  go_enter Try.func9, Try.ntmps9
  go_upto_region 3 with fail
  clear d0 d1 d2 d3 d4 d5 d6
  refine gen_world (fun v => Below w.heap.size w v ∧ Blk v w.heap.size [.int .i64 ch, .int .u64 (w64 n), .int .i64 op, .string args] 24) ⟨HL.out, HX.out⟩ ?_
  clear HL HX
  rintro v ⟨hL, hX⟩
  have HL := Lib.hid hL; have HX := Lib.hid hX; clear hL hX
  go_cut [6] (fun p wx => Below w.heap.size w wx ∧ Blk wx w.heap.size [.int .i64 ch, .int .u64 (w64 n), .int .i64 op, .string args] 24 ∧ Row wx (w.heap.size + 1) p (be8 n ++ [chB op]))
  case first =>
    have x0 := HX.out.cell 0
    have x1 := HX.out.cell 1
    have x2 := HX.out.cell 2
    have x3 := HX.out.cell 3
    simp only [List.getElem?_cons_zero, List.getElem?_cons_succ] at x0 x1 x2 x3
    have hvs : w.heap.size + 1 ≤ v.heap.size := HX.out.lt
    have HB1 := Lib.hid (byte_new op h4 h5)
    have H8 := Lib.hid (show (be8 n).length = 8 from be8_length' n)
    obtain ⟨z0, z1, z2, z3⟩ := cells4 (HX.out.alloc (Obj.cells #[.int .u8 (IntKind.u8.wrap op)] 5))
    go_region_law (first | (refine step_call rfl 19 _ _ rfl #[.slice none 0 0, .int .u64 (w64 n), .int .i64 8] (by kernel_rfl) _ (HA.out _) ?_; rintro v5 w5 ⟨hR5, hL5⟩; have hX5 : Blk w5 w.heap.size [.int .i64 ch, .int .u64 (w64 n), .int .i64 op, .string args] 24 := (by first | exact HX.out.drew.below hL5 HX.out.drew.lt | exact (HX.out.drew.alloc _).below hL5 (HX.out.drew.alloc _).lt); have hq5 := cells4 hX5; obtain ⟨y0, y1, y2, y3⟩ := hq5; have hR6 := row_mono hR5 (Nat.le_trans hvs (by simp)); have hl5 : w.heap.size < w5.heap.size := hX5.lt; have hb5 : Below v.heap.size v w5 := (by first | exact (below_quiet v 1).1.trans hL5 | exact ((below_quiet v 1).1.alloc (by simp) _).trans (hL5.mono (by simp)))) | (refine step_append_row rfl _ _ rfl (w.heap.size + 1) _ (be8 n) rfl (row_keep hR6 ((Keep.refl [] _).alloc _) (fun _ _ => by simp)) w5.heap.size (chB op) rfl (HB1.out _) (by rw [H8.out]; decide) (by simp; omega) ?_; intro v7 w7 hR7 hK7; have hL7 := hb5.trans (((Keep.refl _ _).alloc _ |>.trans hK7).toBelowAt hb5.size (fun i hi => by rw [Option.mem_toList] at hi; have := (row_lt hR5 i hi).1; simp at this; omega))) | (refine step_append_row rfl _ _ rfl (w.heap.size + 1) _ (be8 n) rfl hR6 v.heap.size (chB op) rfl ((hL5.cell (p := ⟨v.heap.size, 0, none⟩) (by simp)).trans (HB1.out v.drew)) (by rw [H8.out]; decide) (by omega) ?_; intro v7 w7 hR7 hK7; have hL7 := hb5.trans (hK7.toBelowAt hb5.size (fun i hi => by rw [Option.mem_toList] at hi; have := (row_lt hR5 i hi).1; simp at this; omega))))
    all_goals
      go_wp2_with fail
      go_meet
      refine ⟨HL.out.trans (hL7.mono HL.out.size), HX.out.below hL7 HX.out.lt, hR7⟩
  case rest =>
    obtain ⟨hL, hX, hR⟩ := hcut
    have HL2 := Lib.hid hL; have HX2 := Lib.hid hX; have HR2 := Lib.hid hR
    obtain ⟨l2, hl2⟩ : ∃ l2, l2 = be8 n ++ [chB op] := ⟨_, rfl⟩
    rw [← hl2] at HR2 HC
    have hl2s : l2.length ≤ 9 := by rw [hl2]; simp [be8]
    clear hL hX hR hl2 HL HX HA
    have x0 := HX2.out.cell 0
    have x1 := HX2.out.cell 1
    have x2 := HX2.out.cell 2
    have x3 := HX2.out.cell 3
    simp only [List.getElem?_cons_zero, List.getElem?_cons_succ] at x0 x1 x2 x3
    obtain ⟨ba, bc, rfl⟩ := row_form HR2.out
    go_wp2_with (at_builtin; refine append_string _ rfl _ _ rfl (w.heap.size + 1) _ l2 rfl HR2.out args rfl ?c1 ?c2 ?_)
    case c1 => omega
    case c2 => exact HX2.out.lt
    intro v3 w3 hR3 hK3
    have hL3 := hK3.toBelowAt (B := w.heap.size + 1) HX2.out.lt (fun i hi => by rw [Option.mem_toList] at hi; exact (row_lt HR2.out i hi).1)
    have HL3 := Lib.hid (HL2.out.trans (hL3.mono (by omega)))
    have HX3 := Lib.hid (HX2.out.below hL3 (by omega))
    obtain ⟨l3, hl3⟩ : ∃ l3, l3 = l2 ++ args.data.toList := ⟨_, rfl⟩
    rw [← hl3] at hR3 HC
    have hl3s : l3.length ≤ 200 := by rw [hl3]; simp; omega
    have HR3 := Lib.hid hR3
    clear hK3 hL3 hR3 hl3 HL2 HX2 HR2 x0 x1 x2 x3
    have x0 := HX3.out.cell 0
    have x1 := HX3.out.cell 1
    have x2 := HX3.out.cell 2
    have x3 := HX3.out.cell 3
    simp only [List.getElem?_cons_zero, List.getElem?_cons_succ] at x0 x1 x2 x3
    obtain ⟨ba3, bc3, rfl⟩ := row_form HR3.out
    have hcv := run_string HR3.out
    have hsz : (⟨l3.toArray⟩ : ByteArray).size ≤ 1000000 := by show l3.toArray.size ≤ _; simp; omega
    go_wp2_with fail
    refine (HSUM.out _ _ hsz).mono ?_
    rintro e w4 ⟨v4, rfl, hR4, hL4⟩
    have HL4 := Lib.hid (HL3.out.trans (hL4.mono HL3.out.size))
    have HR3b := Lib.hid (row_below HR3.out hL4 (Nat.le_refl _))
    have HR4 := Lib.hid (row_mono hR4 (Nat.le_trans (Nat.le_of_lt_succ (by have := HX3.out.lt; omega)) (Nat.le_refl _)) : Row w4 w.heap.size v4 _)
    have hw3 : w.heap.size + 1 ≤ w3.heap.size := HX3.out.lt
    have hw4 : w3.heap.size ≤ w4.heap.size := hL4.size
    clear hL4 hR4 hcv x0 x1 x2 x3
    go_wp2_with (at_builtin; refine append_slice _ rfl _ _ rfl (w.heap.size + 1) _ l3 rfl HR3b.out w.heap.size v4 _ rfl HR4.out ?c1 ?c2 ?_)
    case c1 => simp [sumL, be8]; omega
    case c2 => omega
    intro v5 w5 hR5 hK5
    have HL5 := Lib.hid (HL4.out.trans (hK5.toBelowAt HL4.out.size (fun i hi => by rw [Option.mem_toList] at hi; have := (row_lt HR3b.out i hi).1; omega)))
    have hcv := run_string hR5
    clear hK5
    go_wp2_with fail
    go_ret2
    exact ⟨by rw [HC.out]; simp [strOf, sumL], HL5.out⟩
end Go.Proofs.Ytincoocagfegfaa
