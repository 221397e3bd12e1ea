/- What is proved here: the walk of the function that writes the gaps of a unit. -/
import Derived.Test.YtkpgenmlpkfokaaN10
set_option linter.unusedVariables false
set_option linter.unusedSimpArgs false
namespace Go.Proofs.Ytkpgenmlpkfokaa
open Go.RowKit
theorem row_one (w : World) (c : UInt8) (ci : Int) (h : ci = (c.toNat : Int)) : Row (w.alloc (Obj.cells #[.int .u8 ci] 5)) w.heap.size (.slice (some ⟨w.heap.size, 0, none⟩) 1 1) [c] := by
  subst h
  exact .inr ⟨w.heap.size, 1, _, _, rfl, Nat.le_refl _, heap_alloc_new w _, .inl rfl, Nat.le_refl _, by decide, rfl, rfl⟩
theorem gapB_length (g : Gp) : (gapB g).length = 4 := by simp [gapB, beN_length]
theorem gaps_len (l : List Gp) : (l.flatMap gapB).length = 4 * l.length := by
  induction l with
  | nil => rfl
  | cons g l ih => rw [List.flatMap_cons, List.length_append, ih, gapB_length, List.length_cons]; omega
theorem gaps_step (l : List Gp) (k : Nat) (h : k < l.length) : (l.take (k + 1)).flatMap gapB = (l.take k).flatMap gapB ++ (beN 2 (l[k]).1 ++ beN 2 (l[k]).2) := by
  rw [List.take_succ_eq_append_getElem h, List.flatMap_append]
  simp [gapB]
set_option maxHeartbeats 16000000 in
set_option maxRecDepth 100000 in
theorem put5_any (u : Un) (gv : Value) (w : World) (hs : u.gaps.length ≤ 1000) (hi : intsU u) (hG : GapsAt w gv u.gaps) : Calls Try.prog 60 #[u.val gv] w fun e w' => ∃ v', e = .returned v' ∧ Row w' w.heap.size v' (bodyU 5 u) ∧ Below w.heap.size w w' := by
  have HA := Lib.hid (Blk.new w (u.cells gv) 25)
  have HL := Lib.hid ((Below.refl w.heap.size w).alloc (Nat.le_refl _) (Obj.cells (u.cells gv).toArray 25))
  obtain ⟨ki, nu, nm, sz, su, of, da, wy, an, me, gs⟩ := u
  obtain ⟨-, -, -, -, -, -, -, -, -, -, -, -, -, -, hig⟩ := hi
  simp only [Un.cells, Un.val, bodyU] at HA HL hs hig hG ⊢
  obtain ⟨ga, gc, rfl, hG⟩ := hG
  have HG := Lib.hid hG
  have HI := Lib.hid hig
  clear hG hig
  cases me
  · go_enter Try.func60, Try.ntmps60
    go_wp2_with fail
    go_loopw [3, 14] (fun bv iv wr => ∃ k : Nat, k ≤ gs.length ∧ iv = .int .i64 k ∧ Row wr w.heap.size bv ((0 : UInt8) :: (gs.take k).flatMap gapB) ∧ Below w.heap.size w wr) (fun _ i _ => gs.length - (intOf i).toNat)
    case atStart =>
      refine ⟨0, by omega, rfl, ?_, HL.out.alloc HL.out.size _⟩
      have := row_one (w.alloc (Obj.cells #[.int .i64 ki, .int .i64 nu, .string nm, .int .i64 sz, .int .u32 su, .int .i64 of, .string da, .int .i64 wy, .int .i64 an, .bool false, .slice ga gs.length gc] 25)) (0 : UInt8) ((0 : UInt8)).toNat rfl
      have := row_mono this (base' := w.heap.size) (by simp)
      simpa using this
    case round =>
      clear HL HA
      obtain ⟨k, hk, rfl, hR, hL⟩ := hrel
      have HR := Lib.hid hR; have HL := Lib.hid hL; clear hR hL
      by_cases hlt : k < gs.length
      · obtain ⟨b, off, rfl, hb, c0, c1⟩ := HG.out k hlt
        have d0 := (HL.out.cell (p := ⟨b, off + k * 2, none⟩) hb).trans c0
        have d1 := (HL.out.cell (p := ⟨b, off + k * 2 + 1, none⟩) hb).trans c1
        obtain ⟨e1, e2, e3, e4⟩ := HI.out k hlt
        have HST := Lib.hid (gaps_step gs k hlt)
        have hlen : ((0 : UInt8) :: (gs.take k).flatMap gapB).length ≤ 4001 := by rw [List.length_cons, gaps_len, List.length_take]; omega
        obtain ⟨l, hl⟩ : ∃ l, l = (0 : UInt8) :: (gs.take k).flatMap gapB := ⟨_, rfl⟩
        rw [← hl] at HR hlen
        obtain ⟨x, hx⟩ : ∃ x, x = (gs[k]).1 := ⟨_, rfl⟩
        obtain ⟨y, hy⟩ : ∃ y, y = (gs[k]).2 := ⟨_, rfl⟩
        rw [← hx] at d0 e1 e2
        rw [← hy] at d1 e3 e4
        rw [← hx, ← hy] at HST
        have Hl := Lib.hid hl
        obtain ⟨ba, bc, rfl⟩ := row_form HR.out
        have H1 := Lib.hid (fun W => ubytes_new x 2 W (by omega) e1 e2)
        have H2 := Lib.hid (fun W => ubytes_new y 2 W (by omega) e3 e4)
        clear c0 c1 hx hy hl e1 e2 e3 e4
        go_upto_region 7 with fail
        obtain ⟨g, hg⟩ : ∃ g, g = wr.heap.size := ⟨_, rfl⟩
        have HA := Lib.hid (Blk.new wr [.int .i64 x, .int .i64 y] 47)
        replace HR := Lib.hid (row_keep HR.out ((Keep.refl [] wr).alloc (Obj.cells #[.int .i64 x, .int .i64 y] 47)) (fun _ _ => by simp))
        replace HL := Lib.hid (HL.out.alloc HL.out.size (Obj.cells #[.int .i64 x, .int .i64 y] 47))
        rw [← hg] at HA ⊢
        clear hg
        refine gen_world (fun w' => Blk w' g [.int .i64 x, .int .i64 y] 47 ∧ Row w' w.heap.size _ l ∧ Below w.heap.size w w') ⟨HA.out, HR.out, HL.out⟩ ?_
        clear HA HR HL d0 d1
        rintro v ⟨hA, hR, hL⟩
        have HA := Lib.hid hA; have HR := Lib.hid hR; have HL := Lib.hid hL
        clear hA hR hL
        have x0 := HA.out.cell 0
        have x1 := HA.out.cell 1
        simp only [List.getElem?_cons_zero, List.getElem?_cons_succ] at x0 x1
        go_region_law (first | (refine step_call rfl 24 #[.tmp 20, .const (.int .i64 2)] _ rfl #[.int .i64 x, .int .i64 2] (by kernel_rfl) _ (H1.out _) ?_; rintro va wa ⟨hRa, hLa⟩; obtain ⟨aa, ca, rfl⟩ := row_form hRa; have hBa : Blk wa g [.int .i64 x, .int .i64 y] 47 := (by first | exact HA.out.drew.below hLa HA.out.lt | exact hBb.below hLa hBb.lt); have hWa : Below v.heap.size v wa := (by first | exact (below_quiet v 1).1.trans hLa | exact hWb.trans (hLa.mono hWb.size)); have ya0 := hBa.cell 0; simp only [List.getElem?_cons_zero, List.getElem?_cons_succ] at ya0; have ya1 := hBa.cell 1; simp only [List.getElem?_cons_zero, List.getElem?_cons_succ] at ya1) | (refine step_call rfl 24 #[.tmp 23, .const (.int .i64 2)] _ rfl #[.int .i64 y, .int .i64 2] (by kernel_rfl) _ (H2.out _) ?_; rintro vb wb ⟨hRb, hLb⟩; obtain ⟨ab, cb, rfl⟩ := row_form hRb; have hBb : Blk wb g [.int .i64 x, .int .i64 y] 47 := (by first | exact HA.out.drew.below hLb HA.out.lt | exact hBa.below hLb hBa.lt); have hWb : Below v.heap.size v wb := (by first | exact (below_quiet v 1).1.trans hLb | exact hWa.trans (hLb.mono hWa.size)); have yb0 := hBb.cell 0; simp only [List.getElem?_cons_zero, List.getElem?_cons_succ] at yb0; have yb1 := hBb.cell 1; simp only [List.getElem?_cons_zero, List.getElem?_cons_succ] at yb1) | (first | (refine step_call rfl 51 _ _ rfl #[.slice (some ⟨wa.heap.size, 0, none⟩) 3 3] (by kernel_rfl) _ (concat_arm wa _ _ _ _ _ _ (row_below HR.out hWa (Nat.le_refl _)) (by first | exact hRa | exact row_below hRa hLb (Nat.le_refl _)) (by first | exact hRb | exact row_below hRb hLa (Nat.le_refl _)) (by simp only [List.length_append, beN_length]; omega)) ?_; rintro vd wd ⟨hRd, hLd⟩; have hWd := hWa.trans (hLd.mono hWa.size); have hRe := row_mono hRd hWa.size) | (refine step_call rfl 51 _ _ rfl #[.slice (some ⟨wb.heap.size, 0, none⟩) 3 3] (by kernel_rfl) _ (concat_arm wb _ _ _ _ _ _ (row_below HR.out hWb (Nat.le_refl _)) (by first | exact hRa | exact row_below hRa hLb (Nat.le_refl _)) (by first | exact hRb | exact row_below hRb hLa (Nat.le_refl _)) (by simp only [List.length_append, beN_length]; omega)) ?_; rintro vd wd ⟨hRd, hLd⟩; have hWd := hWb.trans (hLd.mono hWb.size); have hRe := row_mono hRd hWb.size)))
        all_goals
          go_wp2_with fail
          go_roundw
          case rel => exact ⟨k + 1, by omega, by go_num, by rw [HST.out, ← List.cons_append, ← Hl.out, ← List.append_assoc]; exact row_mono hRe HL.out.size, HL.out.trans (hWd.mono HL.out.size)⟩
          case measure => simp [intOf]; omega
      · obtain rfl : k = gs.length := by omega
        go_wp2_with fail
        go_ret
        refine ⟨_, rfl, ?_, HL.out⟩
        have := HR.out
        rw [List.take_length] at this
        exact this
  · go_enter Try.func60, Try.ntmps60
    go_wp2_with fail
    go_loopw [3, 14] (fun bv iv wr => ∃ k : Nat, k ≤ gs.length ∧ iv = .int .i64 k ∧ Row wr w.heap.size bv ((1 : UInt8) :: (gs.take k).flatMap gapB) ∧ Below w.heap.size w wr) (fun _ i _ => gs.length - (intOf i).toNat)
    case atStart =>
      refine ⟨0, by omega, rfl, ?_, HL.out.alloc HL.out.size _⟩
      have := row_one (w.alloc (Obj.cells #[.int .i64 ki, .int .i64 nu, .string nm, .int .i64 sz, .int .u32 su, .int .i64 of, .string da, .int .i64 wy, .int .i64 an, .bool true, .slice ga gs.length gc] 25)) (1 : UInt8) ((1 : UInt8)).toNat rfl
      have := row_mono this (base' := w.heap.size) (by simp)
      simpa using this
    case round =>
      clear HL HA
      obtain ⟨k, hk, rfl, hR, hL⟩ := hrel
      have HR := Lib.hid hR; have HL := Lib.hid hL; clear hR hL
      by_cases hlt : k < gs.length
      · obtain ⟨b, off, rfl, hb, c0, c1⟩ := HG.out k hlt
        have d0 := (HL.out.cell (p := ⟨b, off + k * 2, none⟩) hb).trans c0
        have d1 := (HL.out.cell (p := ⟨b, off + k * 2 + 1, none⟩) hb).trans c1
        obtain ⟨e1, e2, e3, e4⟩ := HI.out k hlt
        have HST := Lib.hid (gaps_step gs k hlt)
        have hlen : ((1 : UInt8) :: (gs.take k).flatMap gapB).length ≤ 4001 := by rw [List.length_cons, gaps_len, List.length_take]; omega
        obtain ⟨l, hl⟩ : ∃ l, l = (1 : UInt8) :: (gs.take k).flatMap gapB := ⟨_, rfl⟩
        rw [← hl] at HR hlen
        obtain ⟨x, hx⟩ : ∃ x, x = (gs[k]).1 := ⟨_, rfl⟩
        obtain ⟨y, hy⟩ : ∃ y, y = (gs[k]).2 := ⟨_, rfl⟩
        rw [← hx] at d0 e1 e2
        rw [← hy] at d1 e3 e4
        rw [← hx, ← hy] at HST
        have Hl := Lib.hid hl
        obtain ⟨ba, bc, rfl⟩ := row_form HR.out
        have H1 := Lib.hid (fun W => ubytes_new x 2 W (by omega) e1 e2)
        have H2 := Lib.hid (fun W => ubytes_new y 2 W (by omega) e3 e4)
        clear c0 c1 hx hy hl e1 e2 e3 e4
        go_upto_region 7 with fail
        obtain ⟨g, hg⟩ : ∃ g, g = wr.heap.size := ⟨_, rfl⟩
        have HA := Lib.hid (Blk.new wr [.int .i64 x, .int .i64 y] 47)
        replace HR := Lib.hid (row_keep HR.out ((Keep.refl [] wr).alloc (Obj.cells #[.int .i64 x, .int .i64 y] 47)) (fun _ _ => by simp))
        replace HL := Lib.hid (HL.out.alloc HL.out.size (Obj.cells #[.int .i64 x, .int .i64 y] 47))
        rw [← hg] at HA ⊢
        clear hg
        refine gen_world (fun w' => Blk w' g [.int .i64 x, .int .i64 y] 47 ∧ Row w' w.heap.size _ l ∧ Below w.heap.size w w') ⟨HA.out, HR.out, HL.out⟩ ?_
        clear HA HR HL d0 d1
        rintro v ⟨hA, hR, hL⟩
        have HA := Lib.hid hA; have HR := Lib.hid hR; have HL := Lib.hid hL
        clear hA hR hL
        have x0 := HA.out.cell 0
        have x1 := HA.out.cell 1
        simp only [List.getElem?_cons_zero, List.getElem?_cons_succ] at x0 x1
        go_region_law (first | (refine step_call rfl 24 #[.tmp 20, .const (.int .i64 2)] _ rfl #[.int .i64 x, .int .i64 2] (by kernel_rfl) _ (H1.out _) ?_; rintro va wa ⟨hRa, hLa⟩; obtain ⟨aa, ca, rfl⟩ := row_form hRa; have hBa : Blk wa g [.int .i64 x, .int .i64 y] 47 := (by first | exact HA.out.drew.below hLa HA.out.lt | exact hBb.below hLa hBb.lt); have hWa : Below v.heap.size v wa := (by first | exact (below_quiet v 1).1.trans hLa | exact hWb.trans (hLa.mono hWb.size)); have ya0 := hBa.cell 0; simp only [List.getElem?_cons_zero, List.getElem?_cons_succ] at ya0; have ya1 := hBa.cell 1; simp only [List.getElem?_cons_zero, List.getElem?_cons_succ] at ya1) | (refine step_call rfl 24 #[.tmp 23, .const (.int .i64 2)] _ rfl #[.int .i64 y, .int .i64 2] (by kernel_rfl) _ (H2.out _) ?_; rintro vb wb ⟨hRb, hLb⟩; obtain ⟨ab, cb, rfl⟩ := row_form hRb; have hBb : Blk wb g [.int .i64 x, .int .i64 y] 47 := (by first | exact HA.out.drew.below hLb HA.out.lt | exact hBa.below hLb hBa.lt); have hWb : Below v.heap.size v wb := (by first | exact (below_quiet v 1).1.trans hLb | exact hWa.trans (hLb.mono hWa.size)); have yb0 := hBb.cell 0; simp only [List.getElem?_cons_zero, List.getElem?_cons_succ] at yb0; have yb1 := hBb.cell 1; simp only [List.getElem?_cons_zero, List.getElem?_cons_succ] at yb1) | (first | (refine step_call rfl 51 _ _ rfl #[.slice (some ⟨wa.heap.size, 0, none⟩) 3 3] (by kernel_rfl) _ (concat_arm wa _ _ _ _ _ _ (row_below HR.out hWa (Nat.le_refl _)) (by first | exact hRa | exact row_below hRa hLb (Nat.le_refl _)) (by first | exact hRb | exact row_below hRb hLa (Nat.le_refl _)) (by simp only [List.length_append, beN_length]; omega)) ?_; rintro vd wd ⟨hRd, hLd⟩; have hWd := hWa.trans (hLd.mono hWa.size); have hRe := row_mono hRd hWa.size) | (refine step_call rfl 51 _ _ rfl #[.slice (some ⟨wb.heap.size, 0, none⟩) 3 3] (by kernel_rfl) _ (concat_arm wb _ _ _ _ _ _ (row_below HR.out hWb (Nat.le_refl _)) (by first | exact hRa | exact row_below hRa hLb (Nat.le_refl _)) (by first | exact hRb | exact row_below hRb hLa (Nat.le_refl _)) (by simp only [List.length_append, beN_length]; omega)) ?_; rintro vd wd ⟨hRd, hLd⟩; have hWd := hWb.trans (hLd.mono hWb.size); have hRe := row_mono hRd hWb.size)))
        all_goals
          go_wp2_with fail
          go_roundw
          case rel => exact ⟨k + 1, by omega, by go_num, by rw [HST.out, ← List.cons_append, ← Hl.out, ← List.append_assoc]; exact row_mono hRe HL.out.size, HL.out.trans (hWd.mono HL.out.size)⟩
          case measure => simp [intOf]; omega
      · obtain rfl : k = gs.length := by omega
        go_wp2_with fail
        go_ret
        refine ⟨_, rfl, ?_, HL.out⟩
        have := HR.out
        rw [List.take_length] at this
        exact this
end Go.Proofs.Ytkpgenmlpkfokaa
