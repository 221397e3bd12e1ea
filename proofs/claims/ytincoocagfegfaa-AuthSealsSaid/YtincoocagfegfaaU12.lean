/- What is proved here: the walk of the reference's Seal of sealed commands. -/
import Derived.Test.YtincoocagfegfaaU11
set_option linter.unusedVariables false
set_option linter.unusedSimpArgs false
namespace Go.Proofs.Ytincoocagfegfaa
open Go.RowKit
theorem eight_new (n : BitVec 64) (w : World) : Calls Try.prog 21 #[.int .u64 (w64 n)] w fun e w' => ∃ v, e = .returned v ∧ (v = .string ⟨(be8 n).toArray⟩ ∧ Below w.heap.size w w') :=
  (qeight_any n w).mono fun e w' h => ⟨_, h.1, rfl, h.2⟩
theorem byte_row (a : Int) (h0 : 0 ≤ a) (h1 : a ≤ 255) (W : World) : Row (W.alloc (.cells #[.int .u8 (IntKind.u8.wrap a)] 5)) W.heap.size (.slice (some ⟨W.heap.size, 0, none⟩) 1 1) [chB a] := by
  have hw : IntKind.u8.wrap a = a := by rw [IntKind.wrap_u8']; omega
  rw [hw]
  refine .inr ⟨W.heap.size, 1, _, _, rfl, Nat.le_refl _, heap_alloc_new W _, .inl rfl, Nat.le_refl _, by decide, rfl, ?_⟩
  have := chB_int a h0 h1
  simp [vb]; exact this
set_option maxHeartbeats 8000000 in
set_option maxRecDepth 100000 in
theorem qSeal_ok (key : ByteArray) (c : Cm) (w : World) (hk : key.size = 16) (hc : c.ok) : Calls Try.prog 10 #[.string key, c.val] w fun e w' => e = .returned (.tuple #[strOf (sealL key.data.toList c), .int .i64 0]) ∧ Below w.heap.size w w' := by
  obtain ⟨ch, n, op, args⟩ := c
  obtain ⟨h1, h2, h3, h4, h5, h6⟩ := hc
  simp only at h1 h2 h3 h4 h5 h6
  simp only [Cm.val]
  obtain ⟨t8, ht8⟩ : ∃ t8 : ByteArray, t8 = ⟨(be8 n).toArray⟩ := ⟨_, rfl⟩
  have hts : t8.size ≤ 8 := by
    have : t8.data.toList.length = t8.size := by simp
    rw [← this, ht8]; simp [be8]
  obtain ⟨ob, hob⟩ : ∃ ob : ByteArray, ob = ⟨[chB op].toArray⟩ := ⟨_, rfl⟩
  have hobs : ob.size ≤ 1 := by rw [hob]; exact Nat.le_refl 1
  have HSB := Lib.hid (fun (W : World) (base : Nat) (v : Value) (h : Row W base v [chB op]) => show (convert 54 9 v).run Try.prog W = .ok (.string ob) W by rw [hob]; exact run_string h)
  obtain ⟨b, hb⟩ : ∃ b : ByteArray, b = t8 ++ ob ++ args := ⟨_, rfl⟩
  have hbl : b.data.toList = bodyL ⟨ch, n, op, args⟩ := by rw [hb, ht8, hob]; simp [bodyL]
  have hbs : b.size ≤ 200 := by
    have : b.data.toList.length = b.size := by simp
    rw [← this, hbl]; simp [bodyL, be8]; omega
  have HC := Lib.hid (show sealL key.data.toList ⟨ch, n, op, args⟩ = b.data.toList ++ sumL key.data.toList ch b.data.toList by rw [hbl]; rfl)
  have HSUM := Lib.hid (fun w => qsum_any key ch b w hk h1 h2 (by omega))
  have HE := Lib.hid (fun w => eight_new n w)
  rw [← ht8] at HE
  have HL := Lib.hid ((Below.refl w.heap.size w).alloc (Nat.le_refl _) (Obj.cells #[.int .i64 ch, .int .u64 (w64 n), .int .i64 op, .string args] 24))
  have HX := Lib.hid (Blk.new w [.int .i64 ch, .int .u64 (w64 n), .int .i64 op, .string args] 24)
  have HBR := Lib.hid (byte_row op h4 h5)
  have d0 : ((key.size : Int) != 16) = false := by rw [hk]; rfl
  have d1 : decide (ch < 0) = false := by simp; omega
  have d2 : decide (7 < ch) = false := by simp; omega
  have d3 : (w64 n == 0) = false := by rw [beq_eq_false_iff_ne]; exact w64_ne n h3
  have d4 : decide (op < 0) = false := by simp; omega
  have d5 : decide (255 < op) = false := by simp; omega
  have d6 : decide (180 < (args.size : Int)) = false := by simp; omega
  have HBB := Lib.hid hb
  clear hk h3 hb hbl ht8 hob
  go_enter Try.func10, Try.ntmps10
  go_upto_region 3 with fail
  clear d0 d1 d2 d3 d4 d5 d6
  refine gen_world (fun v => Below w.heap.size w v ∧ Blk v w.heap.size [.int .i64 ch, .int .u64 (w64 n), .int .i64 op, .string args] 24) ⟨HL.out, HX.out⟩ ?_
  clear HL HX
  rintro v ⟨hL, hX⟩
  have HL := Lib.hid hL; have HX := Lib.hid hX; clear hL hX
  go_cut [6] (fun p wx => p = .string b ∧ Below w.heap.size w wx ∧ Blk wx w.heap.size [.int .i64 ch, .int .u64 (w64 n), .int .i64 op, .string args] 24)
  case first =>
    have x0 := HX.out.cell 0
    have x1 := HX.out.cell 1
    have x2 := HX.out.cell 2
    have x3 := HX.out.cell 3
    simp only [List.getElem?_cons_zero, List.getElem?_cons_succ] at x0 x1 x2 x3
    have hvs : w.heap.size + 1 ≤ v.heap.size := HX.out.lt
    have hk1 : ¬ (9223372036854775807 < t8.size + ob.size) := by omega
    have hk2 : ¬ (9223372036854775807 < t8.size + ob.size + args.size) := by omega
    have hk3 : ¬ (9223372036854775807 < (t8 ++ ob).size + args.size) := by simp; omega
    obtain ⟨z0, z1, z2, z3⟩ := cells4 (HX.out.alloc (Obj.cells #[.int .u8 (IntKind.u8.wrap op)] 5))
    have hcvv := HSB.out _ _ _ (row_keep (HBR.out v) ((Keep.refl [] _).drew) (fun _ _ => by simp))
    go_region_law (refine step_call rfl 21 _ _ rfl #[.int .u64 (w64 n)] (by kernel_rfl) _ (HE.out _) ?_; rintro v5 w5 ⟨rfl, hL5⟩; have hX5 : Blk w5 w.heap.size [.int .i64 ch, .int .u64 (w64 n), .int .i64 op, .string args] 24 := (by first | exact HX.out.drew.below hL5 HX.out.drew.lt | exact (HX.out.drew.alloc _).below hL5 (HX.out.drew.alloc _).lt); have hq5 := cells4 hX5; obtain ⟨y0, y1, y2, y3⟩ := hq5; have hX6 := hX5.alloc (Obj.cells #[.int .u8 (IntKind.u8.wrap op)] 5); have hq6 := cells4 hX6; obtain ⟨u0, u1, u2, u3⟩ := hq6; have hcv5 := HSB.out _ _ _ (HBR.out w5); have hb5 : Below v.heap.size v w5 := (by first | exact (below_quiet v 1).1.trans hL5 | exact ((below_quiet v 1).1.alloc (by simp) _).trans (hL5.mono (by simp))); try (have hcv6 := HSB.out _ _ _ (row_below (row_keep (HBR.out v) ((Keep.refl [] _).drew) (fun _ _ => by simp)) hL5 (Nat.le_refl _))))
    all_goals
      go_wp2_with fail
      go_meet
      refine ⟨by rw [← HBB.out], ?_, ?_⟩
      · first | exact HL.out.trans (hb5.mono HL.out.size) | exact HL.out.trans ((hb5.alloc hb5.size _).mono HL.out.size)
      · first | exact hX5 | exact hX5.alloc _
  case rest =>
    obtain ⟨rfl, hL, hX⟩ := hcut
    have HL2 := Lib.hid hL; have HX2 := Lib.hid hX; clear hL hX HL HX HE HBR HSB
    have x0 := HX2.out.cell 0
    have x1 := HX2.out.cell 1
    have x2 := HX2.out.cell 2
    have x3 := HX2.out.cell 3
    simp only [List.getElem?_cons_zero, List.getElem?_cons_succ] at x0 x1 x2 x3
    go_wp2_with fail
    refine (HSUM.out _).mono ?_
    rintro e w5 ⟨rfl, hL5⟩
    obtain ⟨t9, ht9⟩ : ∃ t9 : ByteArray, t9 = ⟨(sumL key.data.toList ch b.data.toList).toArray⟩ := ⟨_, rfl⟩
    have ht9s : t9.size ≤ 8 := by
      have : t9.data.toList.length = t9.size := by simp
      rw [← this, ht9]; simp [sumL, be8]
    rw [show strOf (sumL key.data.toList ch b.data.toList) = .string t9 by rw [ht9]; rfl]
    have HT9 := Lib.hid ht9
    clear ht9
    go_wp2_with fail
    go_ret2
    exact ⟨by rw [HC.out, HT9.out]; exact congrArg (fun s => Ending.returned (.tuple #[.string s, .int .i64 0])) (by apply ByteArray.ext; simp), HL2.out.trans (hL5.mono HL2.out.size)⟩
end Go.Proofs.Ytincoocagfegfaa
