/- What is proved here: the walk of the reference's Valid of units. -/
import Derived.Test.YtkpgenmlpkfokaaN5
import Derived.Test.YtkpgenmlpkfokaaN12
set_option linter.unusedVariables false
set_option linter.unusedSimpArgs false
namespace Go.Proofs.Ytkpgenmlpkfokaa
open Go.RowKit
set_option maxHeartbeats 8000000 in
set_option maxRecDepth 100000 in
theorem vValid1 (u : Un) (gv : Value) (w : World) (hk : u.kind = 1) (hn : 0 ≤ u.num ∧ u.num ≤ 65535) (hs : wideU u) (hG : GapsAt w gv u.gaps) : Calls Try.prog 15 #[u.val gv] w fun e w' => e = .returned (.bool (validU 1 u && sameU (fullU 1 u) u)) ∧ Below w.heap.size w w' := by
  have HA := Lib.hid (Blk.new w (u.cells gv) 25)
  have HL := Lib.hid ((Below.refl w.heap.size w).alloc (Nat.le_refl _) (Obj.cells (u.cells gv).toArray 25))
  have HGv := Lib.hid hG
  have HGo := Lib.hid (only_gaps 1 (by omega) (by omega) hG)
  have HGP := Lib.hid (fun W (h : GapsAt W gv u.gaps) => vgaps_any gv u.gaps W hs.2.2 h)
  obtain ⟨ga, gc, rfl, -⟩ := hG
  have HS := Lib.hid (fun W (h : GapsAt W (onlyG 1 (.slice ga u.gaps.length gc)) (onlyU 1 u).gaps) (h' : GapsAt W (.slice ga u.gaps.length gc) u.gaps) => vSame_any (fullU 1 u) u (onlyG 1 (.slice ga u.gaps.length gc)) (.slice ga u.gaps.length gc) W (only_small 1 (by omega) (by omega) hs.2.2) hs.2.2 h h')
  obtain ⟨r1, hr1⟩ : ∃ r1 : Bool, r1 = sameU (fullU 1 u) u := ⟨_, rfl⟩
  rw [← hr1] at HS ⊢
  obtain ⟨ki, nu, nm, sz, su, of, da, wy, an, me, gs⟩ := u
  simp only at hk
  subst hk
  obtain ⟨hs1, hs2, hs3⟩ := hs
  simp only at hs1 hs2 hs3 hn
  have HN := Lib.hid (fun W => vwithin_any nu 0 65535 W)
  rw [decide_eq_true hn] at HN
  simp only [Un.cells, Un.val, fullU, onlyU, onlyG, Un.zero] at HA HL HS HGv HGo HGP ⊢
  simp only [validU]
  clear hr1 hn
  obtain ⟨p0, hp0⟩ : ∃ p : Bool, p = decide (1 ≤ (nm.size : Int) ∧ (nm.size : Int) ≤ 32) := ⟨_, rfl⟩
  have H0 := Lib.hid (fun W => vwithin_any (nm.size : Int) 1 32 W)
  rw [← hp0] at H0 ⊢
  clear hp0
  obtain ⟨p1, hp1⟩ : ∃ p : Bool, p = decide (0 ≤ sz ∧ sz ≤ 65535) := ⟨_, rfl⟩
  have H1 := Lib.hid (fun W => vwithin_any sz 0 65535 W)
  rw [← hp1] at H1 ⊢
  clear hp1
  have x0 := HA.out.cell 0
  have x1 := HA.out.cell 1
  have x2 := HA.out.cell 2
  have x3 := HA.out.cell 3
  have x4 := HA.out.cell 4
  have x5 := HA.out.cell 5
  have x6 := HA.out.cell 6
  have x7 := HA.out.cell 7
  have x8 := HA.out.cell 8
  have x9 := HA.out.cell 9
  have x10 := HA.out.cell 10
  simp only [List.getElem?_cons_zero, List.getElem?_cons_succ] at x0 x1 x2 x3 x4 x5 x6 x7 x8 x9 x10
  go_enter Try.func15, Try.ntmps15
  go_wp2_with fail
  refine (HN.out _).mono ?_
  rintro e _ ⟨rfl, rfl⟩
  go_upto_region 7 with fail
  refine gen_world (fun w' => Blk w' (w.heap.size + 1) [.int .i64 1, .int .i64 nu, .string ⟨#[]⟩, .int .i64 0, .int .u32 0, .int .i64 0, .string ⟨#[]⟩, .int .i64 0, .int .i64 0, .bool false, .slice none 0 0] 25 ∧ Blk w' w.heap.size [.int .i64 1, .int .i64 nu, .string nm, .int .i64 sz, .int .u32 su, .int .i64 of, .string da, .int .i64 wy, .int .i64 an, .bool me, .slice ga gs.length gc] 25 ∧ Below w.heap.size w w') ⟨Blk.new_at _ _ _ _ (by simp), HA.out.alloc _, HL.out.alloc HL.out.size _⟩ ?_
  clear HA HL HN x0 x1 x2 x3 x4 x5 x6 x7 x8 x9 x10
  rintro v ⟨hH, hA, hL⟩
  have HH := Lib.hid hH; have HA := Lib.hid hA; have HL := Lib.hid hL
  clear hH hA hL
  go_cut [2] (fun p wx => p = .bool false ∧ Blk wx (w.heap.size + 1) [.int .i64 1, .int .i64 nu, .string nm, .int .i64 sz, .int .u32 0, .int .i64 0, .string ⟨#[]⟩, .int .i64 0, .int .i64 0, .bool false, .slice none 0 0] 25 ∧ Blk wx w.heap.size [.int .i64 1, .int .i64 nu, .string nm, .int .i64 sz, .int .u32 su, .int .i64 of, .string da, .int .i64 wy, .int .i64 an, .bool me, .slice ga gs.length gc] 25 ∧ Below w.heap.size w wx)
  case first =>
    have x0 := HA.out.cell 0
    have x1 := HA.out.cell 1
    have x2 := HA.out.cell 2
    have x3 := HA.out.cell 3
    have x4 := HA.out.cell 4
    have x5 := HA.out.cell 5
    have x6 := HA.out.cell 6
    have x7 := HA.out.cell 7
    have x8 := HA.out.cell 8
    have x9 := HA.out.cell 9
    have x10 := HA.out.cell 10
    simp only [List.getElem?_cons_zero, List.getElem?_cons_succ] at x0 x1 x2 x3 x4 x5 x6 x7 x8 x9 x10
    have f2 := HH.out.free 2
    have h2 := HH.out.cell 2
    have f3 := HH.out.free 3
    have h3 := HH.out.cell 3
    simp only [List.getElem?_cons_zero, List.getElem?_cons_succ] at h2 h3
    go_region_law (fail)
    all_goals
      go_wp2_with fail
      go_meet
      first
      | exact ⟨by with_reducible rfl, ((HH.out.set 2 _).set 3 _).drew, ((HA.out.set_far (by simp) _).set_far (by simp) _).drew, ((HL.out.setCell (by simp) _).setCell (by simp) _).drew⟩
  case rest =>
    obtain ⟨rfl, hH, hA, hL⟩ := hcut
    have HH2 := Lib.hid hH; have HA2 := Lib.hid hA; have HL2 := Lib.hid hL
    clear hH hA hL HH HA HL
    have x0 := HA2.out.cell 0
    have x1 := HA2.out.cell 1
    have x2 := HA2.out.cell 2
    have x3 := HA2.out.cell 3
    have x4 := HA2.out.cell 4
    have x5 := HA2.out.cell 5
    have x6 := HA2.out.cell 6
    have x7 := HA2.out.cell 7
    have x8 := HA2.out.cell 8
    have x9 := HA2.out.cell 9
    have x10 := HA2.out.cell 10
    simp only [List.getElem?_cons_zero, List.getElem?_cons_succ] at x0 x1 x2 x3 x4 x5 x6 x7 x8 x9 x10
    cases p0
    · go_wp2_with fail
      refine (H0.out _).mono ?_
      rintro e _ ⟨rfl, rfl⟩
      go_wp2_with fail
      go_ret
      exact ⟨by simp, HL2.out⟩
    · cases p1
      · go_wp2_with fail
        refine (H0.out _).mono ?_
        rintro e _ ⟨rfl, rfl⟩
        go_wp2_with fail
        refine (H1.out _).mono ?_
        rintro e _ ⟨rfl, rfl⟩
        go_wp2_with fail
        go_ret
        exact ⟨by simp, HL2.out⟩
      · go_wp2_with fail
        refine (H0.out _).mono ?_
        rintro e _ ⟨rfl, rfl⟩
        go_wp2_with fail
        refine (H1.out _).mono ?_
        rintro e _ ⟨rfl, rfl⟩
        clear x0 x1 x2 x3 x4 x5 x6 x7 x8 x9 x10
        have x0 := HA2.out.cell 0
        have x1 := HA2.out.cell 1
        have x2 := HA2.out.cell 2
        have x3 := HA2.out.cell 3
        have x4 := HA2.out.cell 4
        have x5 := HA2.out.cell 5
        have x6 := HA2.out.cell 6
        have x7 := HA2.out.cell 7
        have x8 := HA2.out.cell 8
        have x9 := HA2.out.cell 9
        have x10 := HA2.out.cell 10
        simp only [List.getElem?_cons_zero, List.getElem?_cons_succ] at x0 x1 x2 x3 x4 x5 x6 x7 x8 x9 x10
        have y0 := HH2.out.cell 0
        have y1 := HH2.out.cell 1
        have y2 := HH2.out.cell 2
        have y3 := HH2.out.cell 3
        have y4 := HH2.out.cell 4
        have y5 := HH2.out.cell 5
        have y6 := HH2.out.cell 6
        have y7 := HH2.out.cell 7
        have y8 := HH2.out.cell 8
        have y9 := HH2.out.cell 9
        have y10 := HH2.out.cell 10
        simp only [List.getElem?_cons_zero, List.getElem?_cons_succ] at y0 y1 y2 y3 y4 y5 y6 y7 y8 y9 y10
        go_wp2_with fail
        refine (HS.out _ (HGo.out.below HL2.out (Nat.le_refl _)) (HGv.out.below HL2.out (Nat.le_refl _))).mono ?_
        rintro e w7 ⟨rfl, hL7⟩
        replace HL2 := Lib.hid (HL2.out.trans (hL7.mono HL2.out.size))
        clear hL7
        go_wp2_with fail
        go_ret
        exact ⟨by simp, HL2.out⟩
set_option maxHeartbeats 8000000 in
set_option maxRecDepth 100000 in
theorem vValid2 (u : Un) (gv : Value) (w : World) (hk : u.kind = 2) (hn : 0 ≤ u.num ∧ u.num ≤ 65535) (hs : wideU u) (hG : GapsAt w gv u.gaps) : Calls Try.prog 15 #[u.val gv] w fun e w' => e = .returned (.bool (validU 2 u && sameU (fullU 2 u) u)) ∧ Below w.heap.size w w' := by
  have HA := Lib.hid (Blk.new w (u.cells gv) 25)
  have HL := Lib.hid ((Below.refl w.heap.size w).alloc (Nat.le_refl _) (Obj.cells (u.cells gv).toArray 25))
  have HGv := Lib.hid hG
  have HGo := Lib.hid (only_gaps 2 (by omega) (by omega) hG)
  have HGP := Lib.hid (fun W (h : GapsAt W gv u.gaps) => vgaps_any gv u.gaps W hs.2.2 h)
  obtain ⟨ga, gc, rfl, -⟩ := hG
  have HS := Lib.hid (fun W (h : GapsAt W (onlyG 2 (.slice ga u.gaps.length gc)) (onlyU 2 u).gaps) (h' : GapsAt W (.slice ga u.gaps.length gc) u.gaps) => vSame_any (fullU 2 u) u (onlyG 2 (.slice ga u.gaps.length gc)) (.slice ga u.gaps.length gc) W (only_small 2 (by omega) (by omega) hs.2.2) hs.2.2 h h')
  obtain ⟨r1, hr1⟩ : ∃ r1 : Bool, r1 = sameU (fullU 2 u) u := ⟨_, rfl⟩
  rw [← hr1] at HS ⊢
  obtain ⟨ki, nu, nm, sz, su, of, da, wy, an, me, gs⟩ := u
  simp only at hk
  subst hk
  obtain ⟨hs1, hs2, hs3⟩ := hs
  simp only at hs1 hs2 hs3 hn
  have HN := Lib.hid (fun W => vwithin_any nu 0 65535 W)
  rw [decide_eq_true hn] at HN
  simp only [Un.cells, Un.val, fullU, onlyU, onlyG, Un.zero] at HA HL HS HGv HGo HGP ⊢
  simp only [validU]
  clear hr1 hn
  obtain ⟨p0, hp0⟩ : ∃ p : Bool, p = decide (1 ≤ (da.size : Int) ∧ (da.size : Int) ≤ 160) := ⟨_, rfl⟩
  have H0 := Lib.hid (fun W => vwithin_any (da.size : Int) 1 160 W)
  rw [← hp0] at H0 ⊢
  clear hp0
  obtain ⟨p1, hp1⟩ : ∃ p : Bool, p = decide (0 ≤ of ∧ of ≤ (65535 - (da.size : Int))) := ⟨_, rfl⟩
  have H1 := Lib.hid (fun W => vwithin_any of 0 (65535 - (da.size : Int)) W)
  rw [← hp1] at H1 ⊢
  clear hp1
  have x0 := HA.out.cell 0
  have x1 := HA.out.cell 1
  have x2 := HA.out.cell 2
  have x3 := HA.out.cell 3
  have x4 := HA.out.cell 4
  have x5 := HA.out.cell 5
  have x6 := HA.out.cell 6
  have x7 := HA.out.cell 7
  have x8 := HA.out.cell 8
  have x9 := HA.out.cell 9
  have x10 := HA.out.cell 10
  simp only [List.getElem?_cons_zero, List.getElem?_cons_succ] at x0 x1 x2 x3 x4 x5 x6 x7 x8 x9 x10
  go_enter Try.func15, Try.ntmps15
  go_wp2_with fail
  refine (HN.out _).mono ?_
  rintro e _ ⟨rfl, rfl⟩
  go_upto_region 10 with fail
  refine gen_world (fun w' => Blk w' (w.heap.size + 1) [.int .i64 2, .int .i64 nu, .string ⟨#[]⟩, .int .i64 0, .int .u32 0, .int .i64 0, .string ⟨#[]⟩, .int .i64 0, .int .i64 0, .bool false, .slice none 0 0] 25 ∧ Blk w' w.heap.size [.int .i64 2, .int .i64 nu, .string nm, .int .i64 sz, .int .u32 su, .int .i64 of, .string da, .int .i64 wy, .int .i64 an, .bool me, .slice ga gs.length gc] 25 ∧ Below w.heap.size w w') ⟨Blk.new_at _ _ _ _ (by simp), HA.out.alloc _, HL.out.alloc HL.out.size _⟩ ?_
  clear HA HL HN x0 x1 x2 x3 x4 x5 x6 x7 x8 x9 x10
  rintro v ⟨hH, hA, hL⟩
  have HH := Lib.hid hH; have HA := Lib.hid hA; have HL := Lib.hid hL
  clear hH hA hL
  go_cut [2] (fun p wx => p = .bool false ∧ Blk wx (w.heap.size + 1) [.int .i64 2, .int .i64 nu, .string ⟨#[]⟩, .int .i64 0, .int .u32 0, .int .i64 of, .string da, .int .i64 0, .int .i64 0, .bool false, .slice none 0 0] 25 ∧ Blk wx w.heap.size [.int .i64 2, .int .i64 nu, .string nm, .int .i64 sz, .int .u32 su, .int .i64 of, .string da, .int .i64 wy, .int .i64 an, .bool me, .slice ga gs.length gc] 25 ∧ Below w.heap.size w wx)
  case first =>
    have x0 := HA.out.cell 0
    have x1 := HA.out.cell 1
    have x2 := HA.out.cell 2
    have x3 := HA.out.cell 3
    have x4 := HA.out.cell 4
    have x5 := HA.out.cell 5
    have x6 := HA.out.cell 6
    have x7 := HA.out.cell 7
    have x8 := HA.out.cell 8
    have x9 := HA.out.cell 9
    have x10 := HA.out.cell 10
    simp only [List.getElem?_cons_zero, List.getElem?_cons_succ] at x0 x1 x2 x3 x4 x5 x6 x7 x8 x9 x10
    have f5 := HH.out.free 5
    have h5 := HH.out.cell 5
    have f6 := HH.out.free 6
    have h6 := HH.out.cell 6
    simp only [List.getElem?_cons_zero, List.getElem?_cons_succ] at h5 h6
    go_region_law (fail)
    all_goals
      go_wp2_with fail
      go_meet
      first
      | exact ⟨by with_reducible rfl, ((HH.out.set 5 _).set 6 _).drew, ((HA.out.set_far (by simp) _).set_far (by simp) _).drew, ((HL.out.setCell (by simp) _).setCell (by simp) _).drew⟩
  case rest =>
    obtain ⟨rfl, hH, hA, hL⟩ := hcut
    have HH2 := Lib.hid hH; have HA2 := Lib.hid hA; have HL2 := Lib.hid hL
    clear hH hA hL HH HA HL
    have x0 := HA2.out.cell 0
    have x1 := HA2.out.cell 1
    have x2 := HA2.out.cell 2
    have x3 := HA2.out.cell 3
    have x4 := HA2.out.cell 4
    have x5 := HA2.out.cell 5
    have x6 := HA2.out.cell 6
    have x7 := HA2.out.cell 7
    have x8 := HA2.out.cell 8
    have x9 := HA2.out.cell 9
    have x10 := HA2.out.cell 10
    simp only [List.getElem?_cons_zero, List.getElem?_cons_succ] at x0 x1 x2 x3 x4 x5 x6 x7 x8 x9 x10
    cases p0
    · go_wp2_with fail
      refine (H0.out _).mono ?_
      rintro e _ ⟨rfl, rfl⟩
      go_wp2_with fail
      go_ret
      exact ⟨by simp, HL2.out⟩
    · cases p1
      · go_wp2_with fail
        refine (H0.out _).mono ?_
        rintro e _ ⟨rfl, rfl⟩
        go_wp2_with fail
        refine (H1.out _).mono ?_
        rintro e _ ⟨rfl, rfl⟩
        go_wp2_with fail
        go_ret
        exact ⟨by simp, HL2.out⟩
      · go_wp2_with fail
        refine (H0.out _).mono ?_
        rintro e _ ⟨rfl, rfl⟩
        go_wp2_with fail
        refine (H1.out _).mono ?_
        rintro e _ ⟨rfl, rfl⟩
        clear x0 x1 x2 x3 x4 x5 x6 x7 x8 x9 x10
        have x0 := HA2.out.cell 0
        have x1 := HA2.out.cell 1
        have x2 := HA2.out.cell 2
        have x3 := HA2.out.cell 3
        have x4 := HA2.out.cell 4
        have x5 := HA2.out.cell 5
        have x6 := HA2.out.cell 6
        have x7 := HA2.out.cell 7
        have x8 := HA2.out.cell 8
        have x9 := HA2.out.cell 9
        have x10 := HA2.out.cell 10
        simp only [List.getElem?_cons_zero, List.getElem?_cons_succ] at x0 x1 x2 x3 x4 x5 x6 x7 x8 x9 x10
        have y0 := HH2.out.cell 0
        have y1 := HH2.out.cell 1
        have y2 := HH2.out.cell 2
        have y3 := HH2.out.cell 3
        have y4 := HH2.out.cell 4
        have y5 := HH2.out.cell 5
        have y6 := HH2.out.cell 6
        have y7 := HH2.out.cell 7
        have y8 := HH2.out.cell 8
        have y9 := HH2.out.cell 9
        have y10 := HH2.out.cell 10
        simp only [List.getElem?_cons_zero, List.getElem?_cons_succ] at y0 y1 y2 y3 y4 y5 y6 y7 y8 y9 y10
        go_wp2_with fail
        refine (HS.out _ (HGo.out.below HL2.out (Nat.le_refl _)) (HGv.out.below HL2.out (Nat.le_refl _))).mono ?_
        rintro e w7 ⟨rfl, hL7⟩
        replace HL2 := Lib.hid (HL2.out.trans (hL7.mono HL2.out.size))
        clear hL7
        go_wp2_with fail
        go_ret
        exact ⟨by simp, HL2.out⟩
set_option maxHeartbeats 8000000 in
set_option maxRecDepth 100000 in
theorem vValid3 (u : Un) (gv : Value) (w : World) (hk : u.kind = 3) (hn : 0 ≤ u.num ∧ u.num ≤ 65535) (hs : wideU u) (hG : GapsAt w gv u.gaps) : Calls Try.prog 15 #[u.val gv] w fun e w' => e = .returned (.bool (validU 3 u && sameU (fullU 3 u) u)) ∧ Below w.heap.size w w' := by
  have HA := Lib.hid (Blk.new w (u.cells gv) 25)
  have HL := Lib.hid ((Below.refl w.heap.size w).alloc (Nat.le_refl _) (Obj.cells (u.cells gv).toArray 25))
  have HGv := Lib.hid hG
  have HGo := Lib.hid (only_gaps 3 (by omega) (by omega) hG)
  have HGP := Lib.hid (fun W (h : GapsAt W gv u.gaps) => vgaps_any gv u.gaps W hs.2.2 h)
  obtain ⟨ga, gc, rfl, -⟩ := hG
  have HS := Lib.hid (fun W (h : GapsAt W (onlyG 3 (.slice ga u.gaps.length gc)) (onlyU 3 u).gaps) (h' : GapsAt W (.slice ga u.gaps.length gc) u.gaps) => vSame_any (fullU 3 u) u (onlyG 3 (.slice ga u.gaps.length gc)) (.slice ga u.gaps.length gc) W (only_small 3 (by omega) (by omega) hs.2.2) hs.2.2 h h')
  obtain ⟨r1, hr1⟩ : ∃ r1 : Bool, r1 = sameU (fullU 3 u) u := ⟨_, rfl⟩
  rw [← hr1] at HS ⊢
  obtain ⟨ki, nu, nm, sz, su, of, da, wy, an, me, gs⟩ := u
  simp only at hk
  subst hk
  obtain ⟨hs1, hs2, hs3⟩ := hs
  simp only at hs1 hs2 hs3 hn
  have HN := Lib.hid (fun W => vwithin_any nu 0 65535 W)
  rw [decide_eq_true hn] at HN
  simp only [Un.cells, Un.val, fullU, onlyU, onlyG, Un.zero] at HA HL HS HGv HGo HGP ⊢
  simp only [validU]
  clear hr1 hn
  obtain ⟨p0, hp0⟩ : ∃ p : Bool, p = decide (0 ≤ wy ∧ wy ≤ 1) := ⟨_, rfl⟩
  have H0 := Lib.hid (fun W => vwithin_any wy 0 1 W)
  rw [← hp0] at H0 ⊢
  clear hp0
  obtain ⟨p1, hp1⟩ : ∃ p : Bool, p = decide (0 ≤ sz ∧ sz ≤ 65535) := ⟨_, rfl⟩
  have H1 := Lib.hid (fun W => vwithin_any sz 0 65535 W)
  rw [← hp1] at H1 ⊢
  clear hp1
  have x0 := HA.out.cell 0
  have x1 := HA.out.cell 1
  have x2 := HA.out.cell 2
  have x3 := HA.out.cell 3
  have x4 := HA.out.cell 4
  have x5 := HA.out.cell 5
  have x6 := HA.out.cell 6
  have x7 := HA.out.cell 7
  have x8 := HA.out.cell 8
  have x9 := HA.out.cell 9
  have x10 := HA.out.cell 10
  simp only [List.getElem?_cons_zero, List.getElem?_cons_succ] at x0 x1 x2 x3 x4 x5 x6 x7 x8 x9 x10
  go_enter Try.func15, Try.ntmps15
  go_wp2_with fail
  refine (HN.out _).mono ?_
  rintro e _ ⟨rfl, rfl⟩
  go_upto_region 13 with fail
  refine gen_world (fun w' => Blk w' (w.heap.size + 1) [.int .i64 3, .int .i64 nu, .string ⟨#[]⟩, .int .i64 0, .int .u32 0, .int .i64 0, .string ⟨#[]⟩, .int .i64 0, .int .i64 0, .bool false, .slice none 0 0] 25 ∧ Blk w' w.heap.size [.int .i64 3, .int .i64 nu, .string nm, .int .i64 sz, .int .u32 su, .int .i64 of, .string da, .int .i64 wy, .int .i64 an, .bool me, .slice ga gs.length gc] 25 ∧ Below w.heap.size w w') ⟨Blk.new_at _ _ _ _ (by simp), HA.out.alloc _, HL.out.alloc HL.out.size _⟩ ?_
  clear HA HL HN x0 x1 x2 x3 x4 x5 x6 x7 x8 x9 x10
  rintro v ⟨hH, hA, hL⟩
  have HH := Lib.hid hH; have HA := Lib.hid hA; have HL := Lib.hid hL
  clear hH hA hL
  go_cut [2] (fun p wx => p = .bool false ∧ Blk wx (w.heap.size + 1) [.int .i64 3, .int .i64 nu, .string ⟨#[]⟩, .int .i64 sz, .int .u32 su, .int .i64 0, .string ⟨#[]⟩, .int .i64 wy, .int .i64 0, .bool false, .slice none 0 0] 25 ∧ Blk wx w.heap.size [.int .i64 3, .int .i64 nu, .string nm, .int .i64 sz, .int .u32 su, .int .i64 of, .string da, .int .i64 wy, .int .i64 an, .bool me, .slice ga gs.length gc] 25 ∧ Below w.heap.size w wx)
  case first =>
    have x0 := HA.out.cell 0
    have x1 := HA.out.cell 1
    have x2 := HA.out.cell 2
    have x3 := HA.out.cell 3
    have x4 := HA.out.cell 4
    have x5 := HA.out.cell 5
    have x6 := HA.out.cell 6
    have x7 := HA.out.cell 7
    have x8 := HA.out.cell 8
    have x9 := HA.out.cell 9
    have x10 := HA.out.cell 10
    simp only [List.getElem?_cons_zero, List.getElem?_cons_succ] at x0 x1 x2 x3 x4 x5 x6 x7 x8 x9 x10
    have f7 := HH.out.free 7
    have h7 := HH.out.cell 7
    have f3 := HH.out.free 3
    have h3 := HH.out.cell 3
    have f4 := HH.out.free 4
    have h4 := HH.out.cell 4
    simp only [List.getElem?_cons_zero, List.getElem?_cons_succ] at h7 h3 h4
    go_region_law (fail)
    all_goals
      go_wp2_with fail
      go_meet
      first
      | exact ⟨by with_reducible rfl, (((HH.out.set 7 _).set 3 _).set 4 _).drew, (((HA.out.set_far (by simp) _).set_far (by simp) _).set_far (by simp) _).drew, (((HL.out.setCell (by simp) _).setCell (by simp) _).setCell (by simp) _).drew⟩
  case rest =>
    obtain ⟨rfl, hH, hA, hL⟩ := hcut
    have HH2 := Lib.hid hH; have HA2 := Lib.hid hA; have HL2 := Lib.hid hL
    clear hH hA hL HH HA HL
    have x0 := HA2.out.cell 0
    have x1 := HA2.out.cell 1
    have x2 := HA2.out.cell 2
    have x3 := HA2.out.cell 3
    have x4 := HA2.out.cell 4
    have x5 := HA2.out.cell 5
    have x6 := HA2.out.cell 6
    have x7 := HA2.out.cell 7
    have x8 := HA2.out.cell 8
    have x9 := HA2.out.cell 9
    have x10 := HA2.out.cell 10
    simp only [List.getElem?_cons_zero, List.getElem?_cons_succ] at x0 x1 x2 x3 x4 x5 x6 x7 x8 x9 x10
    cases p0
    · go_wp2_with fail
      refine (H0.out _).mono ?_
      rintro e _ ⟨rfl, rfl⟩
      go_wp2_with fail
      go_ret
      exact ⟨by simp, HL2.out⟩
    · cases p1
      · go_wp2_with fail
        refine (H0.out _).mono ?_
        rintro e _ ⟨rfl, rfl⟩
        go_wp2_with fail
        refine (H1.out _).mono ?_
        rintro e _ ⟨rfl, rfl⟩
        go_wp2_with fail
        go_ret
        exact ⟨by simp, HL2.out⟩
      · go_wp2_with fail
        refine (H0.out _).mono ?_
        rintro e _ ⟨rfl, rfl⟩
        go_wp2_with fail
        refine (H1.out _).mono ?_
        rintro e _ ⟨rfl, rfl⟩
        clear x0 x1 x2 x3 x4 x5 x6 x7 x8 x9 x10
        have x0 := HA2.out.cell 0
        have x1 := HA2.out.cell 1
        have x2 := HA2.out.cell 2
        have x3 := HA2.out.cell 3
        have x4 := HA2.out.cell 4
        have x5 := HA2.out.cell 5
        have x6 := HA2.out.cell 6
        have x7 := HA2.out.cell 7
        have x8 := HA2.out.cell 8
        have x9 := HA2.out.cell 9
        have x10 := HA2.out.cell 10
        simp only [List.getElem?_cons_zero, List.getElem?_cons_succ] at x0 x1 x2 x3 x4 x5 x6 x7 x8 x9 x10
        have y0 := HH2.out.cell 0
        have y1 := HH2.out.cell 1
        have y2 := HH2.out.cell 2
        have y3 := HH2.out.cell 3
        have y4 := HH2.out.cell 4
        have y5 := HH2.out.cell 5
        have y6 := HH2.out.cell 6
        have y7 := HH2.out.cell 7
        have y8 := HH2.out.cell 8
        have y9 := HH2.out.cell 9
        have y10 := HH2.out.cell 10
        simp only [List.getElem?_cons_zero, List.getElem?_cons_succ] at y0 y1 y2 y3 y4 y5 y6 y7 y8 y9 y10
        go_wp2_with fail
        refine (HS.out _ (HGo.out.below HL2.out (Nat.le_refl _)) (HGv.out.below HL2.out (Nat.le_refl _))).mono ?_
        rintro e w7 ⟨rfl, hL7⟩
        replace HL2 := Lib.hid (HL2.out.trans (hL7.mono HL2.out.size))
        clear hL7
        go_wp2_with fail
        go_ret
        exact ⟨by simp, HL2.out⟩
set_option maxHeartbeats 8000000 in
set_option maxRecDepth 100000 in
theorem vValid4 (u : Un) (gv : Value) (w : World) (hk : u.kind = 4) (hn : 0 ≤ u.num ∧ u.num ≤ 65535) (hs : wideU u) (hG : GapsAt w gv u.gaps) : Calls Try.prog 15 #[u.val gv] w fun e w' => e = .returned (.bool (validU 4 u && sameU (fullU 4 u) u)) ∧ Below w.heap.size w w' := by
  have HA := Lib.hid (Blk.new w (u.cells gv) 25)
  have HL := Lib.hid ((Below.refl w.heap.size w).alloc (Nat.le_refl _) (Obj.cells (u.cells gv).toArray 25))
  have HGv := Lib.hid hG
  have HGo := Lib.hid (only_gaps 4 (by omega) (by omega) hG)
  have HGP := Lib.hid (fun W (h : GapsAt W gv u.gaps) => vgaps_any gv u.gaps W hs.2.2 h)
  obtain ⟨ga, gc, rfl, -⟩ := hG
  have HS := Lib.hid (fun W (h : GapsAt W (onlyG 4 (.slice ga u.gaps.length gc)) (onlyU 4 u).gaps) (h' : GapsAt W (.slice ga u.gaps.length gc) u.gaps) => vSame_any (fullU 4 u) u (onlyG 4 (.slice ga u.gaps.length gc)) (.slice ga u.gaps.length gc) W (only_small 4 (by omega) (by omega) hs.2.2) hs.2.2 h h')
  obtain ⟨r1, hr1⟩ : ∃ r1 : Bool, r1 = sameU (fullU 4 u) u := ⟨_, rfl⟩
  rw [← hr1] at HS ⊢
  obtain ⟨ki, nu, nm, sz, su, of, da, wy, an, me, gs⟩ := u
  simp only at hk
  subst hk
  obtain ⟨hs1, hs2, hs3⟩ := hs
  simp only at hs1 hs2 hs3 hn
  have HN := Lib.hid (fun W => vwithin_any nu 0 65535 W)
  rw [decide_eq_true hn] at HN
  simp only [Un.cells, Un.val, fullU, onlyU, onlyG, Un.zero] at HA HL HS HGv HGo HGP ⊢
  simp only [validU]
  clear hr1 hn
  obtain ⟨p0, hp0⟩ : ∃ p : Bool, p = decide (0 ≤ wy ∧ wy ≤ 4) := ⟨_, rfl⟩
  have H0 := Lib.hid (fun W => vwithin_any wy 0 4 W)
  rw [← hp0] at H0 ⊢
  clear hp0
  have x0 := HA.out.cell 0
  have x1 := HA.out.cell 1
  have x2 := HA.out.cell 2
  have x3 := HA.out.cell 3
  have x4 := HA.out.cell 4
  have x5 := HA.out.cell 5
  have x6 := HA.out.cell 6
  have x7 := HA.out.cell 7
  have x8 := HA.out.cell 8
  have x9 := HA.out.cell 9
  have x10 := HA.out.cell 10
  simp only [List.getElem?_cons_zero, List.getElem?_cons_succ] at x0 x1 x2 x3 x4 x5 x6 x7 x8 x9 x10
  go_enter Try.func15, Try.ntmps15
  go_wp2_with fail
  refine (HN.out _).mono ?_
  rintro e _ ⟨rfl, rfl⟩
  go_upto_region 16 with fail
  refine gen_world (fun w' => Blk w' (w.heap.size + 1) [.int .i64 4, .int .i64 nu, .string ⟨#[]⟩, .int .i64 0, .int .u32 0, .int .i64 0, .string ⟨#[]⟩, .int .i64 0, .int .i64 0, .bool false, .slice none 0 0] 25 ∧ Blk w' w.heap.size [.int .i64 4, .int .i64 nu, .string nm, .int .i64 sz, .int .u32 su, .int .i64 of, .string da, .int .i64 wy, .int .i64 an, .bool me, .slice ga gs.length gc] 25 ∧ Below w.heap.size w w') ⟨Blk.new_at _ _ _ _ (by simp), HA.out.alloc _, HL.out.alloc HL.out.size _⟩ ?_
  clear HA HL HN x0 x1 x2 x3 x4 x5 x6 x7 x8 x9 x10
  rintro v ⟨hH, hA, hL⟩
  have HH := Lib.hid hH; have HA := Lib.hid hA; have HL := Lib.hid hL
  clear hH hA hL
  go_cut [2] (fun p wx => p = .bool false ∧ Blk wx (w.heap.size + 1) [.int .i64 4, .int .i64 nu, .string ⟨#[]⟩, .int .i64 0, .int .u32 0, .int .i64 0, .string ⟨#[]⟩, .int .i64 wy, .int .i64 0, .bool false, .slice none 0 0] 25 ∧ Blk wx w.heap.size [.int .i64 4, .int .i64 nu, .string nm, .int .i64 sz, .int .u32 su, .int .i64 of, .string da, .int .i64 wy, .int .i64 an, .bool me, .slice ga gs.length gc] 25 ∧ Below w.heap.size w wx)
  case first =>
    have x0 := HA.out.cell 0
    have x1 := HA.out.cell 1
    have x2 := HA.out.cell 2
    have x3 := HA.out.cell 3
    have x4 := HA.out.cell 4
    have x5 := HA.out.cell 5
    have x6 := HA.out.cell 6
    have x7 := HA.out.cell 7
    have x8 := HA.out.cell 8
    have x9 := HA.out.cell 9
    have x10 := HA.out.cell 10
    simp only [List.getElem?_cons_zero, List.getElem?_cons_succ] at x0 x1 x2 x3 x4 x5 x6 x7 x8 x9 x10
    have f7 := HH.out.free 7
    have h7 := HH.out.cell 7
    simp only [List.getElem?_cons_zero, List.getElem?_cons_succ] at h7
    go_wp2_with fail
    all_goals
      go_meet
      first
      | exact ⟨by with_reducible rfl, (HH.out.set 7 _), (HA.out.set_far (by simp) _), (HL.out.setCell (by simp) _)⟩
  case rest =>
    obtain ⟨rfl, hH, hA, hL⟩ := hcut
    have HH2 := Lib.hid hH; have HA2 := Lib.hid hA; have HL2 := Lib.hid hL
    clear hH hA hL HH HA HL
    have x0 := HA2.out.cell 0
    have x1 := HA2.out.cell 1
    have x2 := HA2.out.cell 2
    have x3 := HA2.out.cell 3
    have x4 := HA2.out.cell 4
    have x5 := HA2.out.cell 5
    have x6 := HA2.out.cell 6
    have x7 := HA2.out.cell 7
    have x8 := HA2.out.cell 8
    have x9 := HA2.out.cell 9
    have x10 := HA2.out.cell 10
    simp only [List.getElem?_cons_zero, List.getElem?_cons_succ] at x0 x1 x2 x3 x4 x5 x6 x7 x8 x9 x10
    cases p0
    · go_wp2_with fail
      refine (H0.out _).mono ?_
      rintro e _ ⟨rfl, rfl⟩
      go_wp2_with fail
      go_ret
      exact ⟨by simp, HL2.out⟩
    · go_wp2_with fail
      refine (H0.out _).mono ?_
      rintro e _ ⟨rfl, rfl⟩
      clear x0 x1 x2 x3 x4 x5 x6 x7 x8 x9 x10
      have x0 := HA2.out.cell 0
      have x1 := HA2.out.cell 1
      have x2 := HA2.out.cell 2
      have x3 := HA2.out.cell 3
      have x4 := HA2.out.cell 4
      have x5 := HA2.out.cell 5
      have x6 := HA2.out.cell 6
      have x7 := HA2.out.cell 7
      have x8 := HA2.out.cell 8
      have x9 := HA2.out.cell 9
      have x10 := HA2.out.cell 10
      simp only [List.getElem?_cons_zero, List.getElem?_cons_succ] at x0 x1 x2 x3 x4 x5 x6 x7 x8 x9 x10
      have y0 := HH2.out.cell 0
      have y1 := HH2.out.cell 1
      have y2 := HH2.out.cell 2
      have y3 := HH2.out.cell 3
      have y4 := HH2.out.cell 4
      have y5 := HH2.out.cell 5
      have y6 := HH2.out.cell 6
      have y7 := HH2.out.cell 7
      have y8 := HH2.out.cell 8
      have y9 := HH2.out.cell 9
      have y10 := HH2.out.cell 10
      simp only [List.getElem?_cons_zero, List.getElem?_cons_succ] at y0 y1 y2 y3 y4 y5 y6 y7 y8 y9 y10
      go_wp2_with fail
      refine (HS.out _ (HGo.out.below HL2.out (Nat.le_refl _)) (HGv.out.below HL2.out (Nat.le_refl _))).mono ?_
      rintro e w7 ⟨rfl, hL7⟩
      replace HL2 := Lib.hid (HL2.out.trans (hL7.mono HL2.out.size))
      clear hL7
      go_wp2_with fail
      go_ret
      exact ⟨by simp, HL2.out⟩
set_option maxHeartbeats 8000000 in
set_option maxRecDepth 100000 in
theorem vValid5 (u : Un) (gv : Value) (w : World) (hk : u.kind = 5) (hn : 0 ≤ u.num ∧ u.num ≤ 65535) (hs : wideU u) (hG : GapsAt w gv u.gaps) : Calls Try.prog 15 #[u.val gv] w fun e w' => e = .returned (.bool (validU 5 u && sameU (fullU 5 u) u)) ∧ Below w.heap.size w w' := by
  have HA := Lib.hid (Blk.new w (u.cells gv) 25)
  have HL := Lib.hid ((Below.refl w.heap.size w).alloc (Nat.le_refl _) (Obj.cells (u.cells gv).toArray 25))
  have HGv := Lib.hid hG
  have HGo := Lib.hid (only_gaps 5 (by omega) (by omega) hG)
  have HGP := Lib.hid (fun W (h : GapsAt W gv u.gaps) => vgaps_any gv u.gaps W hs.2.2 h)
  obtain ⟨ga, gc, rfl, -⟩ := hG
  have HS := Lib.hid (fun W (h : GapsAt W (onlyG 5 (.slice ga u.gaps.length gc)) (onlyU 5 u).gaps) (h' : GapsAt W (.slice ga u.gaps.length gc) u.gaps) => vSame_any (fullU 5 u) u (onlyG 5 (.slice ga u.gaps.length gc)) (.slice ga u.gaps.length gc) W (only_small 5 (by omega) (by omega) hs.2.2) hs.2.2 h h')
  obtain ⟨r1, hr1⟩ : ∃ r1 : Bool, r1 = sameU (fullU 5 u) u := ⟨_, rfl⟩
  rw [← hr1] at HS ⊢
  obtain ⟨ki, nu, nm, sz, su, of, da, wy, an, me, gs⟩ := u
  simp only at hk
  subst hk
  obtain ⟨hs1, hs2, hs3⟩ := hs
  simp only at hs1 hs2 hs3 hn
  have HN := Lib.hid (fun W => vwithin_any nu 0 65535 W)
  rw [decide_eq_true hn] at HN
  simp only [Un.cells, Un.val, fullU, onlyU, onlyG, Un.zero] at HA HL HS HGv HGo HGP ⊢
  simp only [validU]
  clear hr1 hn
  obtain ⟨p0, hp0⟩ : ∃ p : Bool, p = orderlyL gs := ⟨_, rfl⟩
  rw [← hp0] at HGP ⊢
  clear hp0
  have x0 := HA.out.cell 0
  have x1 := HA.out.cell 1
  have x2 := HA.out.cell 2
  have x3 := HA.out.cell 3
  have x4 := HA.out.cell 4
  have x5 := HA.out.cell 5
  have x6 := HA.out.cell 6
  have x7 := HA.out.cell 7
  have x8 := HA.out.cell 8
  have x9 := HA.out.cell 9
  have x10 := HA.out.cell 10
  simp only [List.getElem?_cons_zero, List.getElem?_cons_succ] at x0 x1 x2 x3 x4 x5 x6 x7 x8 x9 x10
  go_enter Try.func15, Try.ntmps15
  go_wp2_with fail
  refine (HN.out _).mono ?_
  rintro e _ ⟨rfl, rfl⟩
  go_upto_region 19 with fail
  refine gen_world (fun w' => Blk w' (w.heap.size + 1) [.int .i64 5, .int .i64 nu, .string ⟨#[]⟩, .int .i64 0, .int .u32 0, .int .i64 0, .string ⟨#[]⟩, .int .i64 0, .int .i64 0, .bool false, .slice none 0 0] 25 ∧ Blk w' w.heap.size [.int .i64 5, .int .i64 nu, .string nm, .int .i64 sz, .int .u32 su, .int .i64 of, .string da, .int .i64 wy, .int .i64 an, .bool me, .slice ga gs.length gc] 25 ∧ Below w.heap.size w w') ⟨Blk.new_at _ _ _ _ (by simp), HA.out.alloc _, HL.out.alloc HL.out.size _⟩ ?_
  clear HA HL HN x0 x1 x2 x3 x4 x5 x6 x7 x8 x9 x10
  rintro v ⟨hH, hA, hL⟩
  have HH := Lib.hid hH; have HA := Lib.hid hA; have HL := Lib.hid hL
  clear hH hA hL
  go_cut [2] (fun p wx => p = .bool false ∧ Blk wx (w.heap.size + 1) [.int .i64 5, .int .i64 nu, .string ⟨#[]⟩, .int .i64 0, .int .u32 0, .int .i64 0, .string ⟨#[]⟩, .int .i64 0, .int .i64 0, .bool me, .slice ga gs.length gc] 25 ∧ Blk wx w.heap.size [.int .i64 5, .int .i64 nu, .string nm, .int .i64 sz, .int .u32 su, .int .i64 of, .string da, .int .i64 wy, .int .i64 an, .bool me, .slice ga gs.length gc] 25 ∧ Below w.heap.size w wx)
  case first =>
    have x0 := HA.out.cell 0
    have x1 := HA.out.cell 1
    have x2 := HA.out.cell 2
    have x3 := HA.out.cell 3
    have x4 := HA.out.cell 4
    have x5 := HA.out.cell 5
    have x6 := HA.out.cell 6
    have x7 := HA.out.cell 7
    have x8 := HA.out.cell 8
    have x9 := HA.out.cell 9
    have x10 := HA.out.cell 10
    simp only [List.getElem?_cons_zero, List.getElem?_cons_succ] at x0 x1 x2 x3 x4 x5 x6 x7 x8 x9 x10
    have f9 := HH.out.free 9
    have h9 := HH.out.cell 9
    have f10 := HH.out.free 10
    have h10 := HH.out.cell 10
    simp only [List.getElem?_cons_zero, List.getElem?_cons_succ] at h9 h10
    go_region_law (fail)
    all_goals
      go_wp2_with fail
      go_meet
      first
      | exact ⟨by with_reducible rfl, ((HH.out.set 9 _).set 10 _).drew, ((HA.out.set_far (by simp) _).set_far (by simp) _).drew, ((HL.out.setCell (by simp) _).setCell (by simp) _).drew⟩
  case rest =>
    obtain ⟨rfl, hH, hA, hL⟩ := hcut
    have HH2 := Lib.hid hH; have HA2 := Lib.hid hA; have HL2 := Lib.hid hL
    clear hH hA hL HH HA HL
    have x0 := HA2.out.cell 0
    have x1 := HA2.out.cell 1
    have x2 := HA2.out.cell 2
    have x3 := HA2.out.cell 3
    have x4 := HA2.out.cell 4
    have x5 := HA2.out.cell 5
    have x6 := HA2.out.cell 6
    have x7 := HA2.out.cell 7
    have x8 := HA2.out.cell 8
    have x9 := HA2.out.cell 9
    have x10 := HA2.out.cell 10
    simp only [List.getElem?_cons_zero, List.getElem?_cons_succ] at x0 x1 x2 x3 x4 x5 x6 x7 x8 x9 x10
    cases p0
    · go_wp2_with fail
      refine (HGP.out _ (HGv.out.below HL2.out (Nat.le_refl _))).mono ?_
      rintro e w6 ⟨rfl, hL6⟩
      replace HL2 := Lib.hid (HL2.out.trans (hL6.mono HL2.out.size))
      replace HA2 := Lib.hid (HA2.out.below hL6 HA2.out.lt)
      replace HH2 := Lib.hid (HH2.out.below hL6 HH2.out.lt)
      clear hL6 x0 x1 x2 x3 x4 x5 x6 x7 x8 x9 x10
      go_wp2_with fail
      go_ret
      exact ⟨by simp, HL2.out⟩
    · by_cases hl : 0 < gs.length
      all_goals
        cases me
        · go_wp2_with fail
          refine (HGP.out _ (HGv.out.below HL2.out (Nat.le_refl _))).mono ?_
          rintro e w6 ⟨rfl, hL6⟩
          replace HL2 := Lib.hid (HL2.out.trans (hL6.mono HL2.out.size))
          replace HA2 := Lib.hid (HA2.out.below hL6 HA2.out.lt)
          replace HH2 := Lib.hid (HH2.out.below hL6 HH2.out.lt)
          clear hL6 x0 x1 x2 x3 x4 x5 x6 x7 x8 x9 x10
          have x0 := HA2.out.cell 0
          have x1 := HA2.out.cell 1
          have x2 := HA2.out.cell 2
          have x3 := HA2.out.cell 3
          have x4 := HA2.out.cell 4
          have x5 := HA2.out.cell 5
          have x6 := HA2.out.cell 6
          have x7 := HA2.out.cell 7
          have x8 := HA2.out.cell 8
          have x9 := HA2.out.cell 9
          have x10 := HA2.out.cell 10
          simp only [List.getElem?_cons_zero, List.getElem?_cons_succ] at x0 x1 x2 x3 x4 x5 x6 x7 x8 x9 x10
          have y0 := HH2.out.cell 0
          have y1 := HH2.out.cell 1
          have y2 := HH2.out.cell 2
          have y3 := HH2.out.cell 3
          have y4 := HH2.out.cell 4
          have y5 := HH2.out.cell 5
          have y6 := HH2.out.cell 6
          have y7 := HH2.out.cell 7
          have y8 := HH2.out.cell 8
          have y9 := HH2.out.cell 9
          have y10 := HH2.out.cell 10
          simp only [List.getElem?_cons_zero, List.getElem?_cons_succ] at y0 y1 y2 y3 y4 y5 y6 y7 y8 y9 y10
          go_wp2_with fail
          first
          | (refine (HS.out _ (HGo.out.below HL2.out (Nat.le_refl _)) (HGv.out.below HL2.out (Nat.le_refl _))).mono ?_
             rintro e w7 ⟨rfl, hL7⟩
             replace HL2 := Lib.hid (HL2.out.trans (hL7.mono HL2.out.size))
             clear hL7
             go_wp2_with fail
             go_ret
             exact ⟨by simp [hl], HL2.out⟩)
          | (go_ret; exact ⟨by simp [hl], HL2.out⟩)
        · go_wp2_with fail
          refine (HGP.out _ (HGv.out.below HL2.out (Nat.le_refl _))).mono ?_
          rintro e w6 ⟨rfl, hL6⟩
          replace HL2 := Lib.hid (HL2.out.trans (hL6.mono HL2.out.size))
          replace HA2 := Lib.hid (HA2.out.below hL6 HA2.out.lt)
          replace HH2 := Lib.hid (HH2.out.below hL6 HH2.out.lt)
          clear hL6 x0 x1 x2 x3 x4 x5 x6 x7 x8 x9 x10
          have x0 := HA2.out.cell 0
          have x1 := HA2.out.cell 1
          have x2 := HA2.out.cell 2
          have x3 := HA2.out.cell 3
          have x4 := HA2.out.cell 4
          have x5 := HA2.out.cell 5
          have x6 := HA2.out.cell 6
          have x7 := HA2.out.cell 7
          have x8 := HA2.out.cell 8
          have x9 := HA2.out.cell 9
          have x10 := HA2.out.cell 10
          simp only [List.getElem?_cons_zero, List.getElem?_cons_succ] at x0 x1 x2 x3 x4 x5 x6 x7 x8 x9 x10
          have y0 := HH2.out.cell 0
          have y1 := HH2.out.cell 1
          have y2 := HH2.out.cell 2
          have y3 := HH2.out.cell 3
          have y4 := HH2.out.cell 4
          have y5 := HH2.out.cell 5
          have y6 := HH2.out.cell 6
          have y7 := HH2.out.cell 7
          have y8 := HH2.out.cell 8
          have y9 := HH2.out.cell 9
          have y10 := HH2.out.cell 10
          simp only [List.getElem?_cons_zero, List.getElem?_cons_succ] at y0 y1 y2 y3 y4 y5 y6 y7 y8 y9 y10
          go_wp2_with fail
          refine (HS.out _ (HGo.out.below HL2.out (Nat.le_refl _)) (HGv.out.below HL2.out (Nat.le_refl _))).mono ?_
          rintro e w7 ⟨rfl, hL7⟩
          replace HL2 := Lib.hid (HL2.out.trans (hL7.mono HL2.out.size))
          clear hL7
          go_wp2_with fail
          go_ret
          exact ⟨by simp [hl], HL2.out⟩
set_option maxHeartbeats 8000000 in
set_option maxRecDepth 100000 in
theorem vValid6 (u : Un) (gv : Value) (w : World) (hk : u.kind = 6) (hn : 0 ≤ u.num ∧ u.num ≤ 65535) (hs : wideU u) (hG : GapsAt w gv u.gaps) : Calls Try.prog 15 #[u.val gv] w fun e w' => e = .returned (.bool (validU 6 u && sameU (fullU 6 u) u)) ∧ Below w.heap.size w w' := by
  have HA := Lib.hid (Blk.new w (u.cells gv) 25)
  have HL := Lib.hid ((Below.refl w.heap.size w).alloc (Nat.le_refl _) (Obj.cells (u.cells gv).toArray 25))
  have HGv := Lib.hid hG
  have HGo := Lib.hid (only_gaps 6 (by omega) (by omega) hG)
  have HGP := Lib.hid (fun W (h : GapsAt W gv u.gaps) => vgaps_any gv u.gaps W hs.2.2 h)
  obtain ⟨ga, gc, rfl, -⟩ := hG
  have HS := Lib.hid (fun W (h : GapsAt W (onlyG 6 (.slice ga u.gaps.length gc)) (onlyU 6 u).gaps) (h' : GapsAt W (.slice ga u.gaps.length gc) u.gaps) => vSame_any (fullU 6 u) u (onlyG 6 (.slice ga u.gaps.length gc)) (.slice ga u.gaps.length gc) W (only_small 6 (by omega) (by omega) hs.2.2) hs.2.2 h h')
  obtain ⟨r1, hr1⟩ : ∃ r1 : Bool, r1 = sameU (fullU 6 u) u := ⟨_, rfl⟩
  rw [← hr1] at HS ⊢
  obtain ⟨ki, nu, nm, sz, su, of, da, wy, an, me, gs⟩ := u
  simp only at hk
  subst hk
  obtain ⟨hs1, hs2, hs3⟩ := hs
  simp only at hs1 hs2 hs3 hn
  have HN := Lib.hid (fun W => vwithin_any nu 0 65535 W)
  rw [decide_eq_true hn] at HN
  simp only [Un.cells, Un.val, fullU, onlyU, onlyG, Un.zero] at HA HL HS HGv HGo HGP ⊢
  simp only [validU]
  clear hr1 hn
  obtain ⟨p0, hp0⟩ : ∃ p : Bool, (an == 3) = p := ⟨_, rfl⟩
  obtain ⟨p1, hp1⟩ : ∃ q : Bool, (an == 4) = q := ⟨_, rfl⟩
  rw [hp0, hp1]
  have x0 := HA.out.cell 0
  have x1 := HA.out.cell 1
  have x2 := HA.out.cell 2
  have x3 := HA.out.cell 3
  have x4 := HA.out.cell 4
  have x5 := HA.out.cell 5
  have x6 := HA.out.cell 6
  have x7 := HA.out.cell 7
  have x8 := HA.out.cell 8
  have x9 := HA.out.cell 9
  have x10 := HA.out.cell 10
  simp only [List.getElem?_cons_zero, List.getElem?_cons_succ] at x0 x1 x2 x3 x4 x5 x6 x7 x8 x9 x10
  go_enter Try.func15, Try.ntmps15
  go_wp2_with fail
  refine (HN.out _).mono ?_
  rintro e _ ⟨rfl, rfl⟩
  go_upto_region 22 with fail
  refine gen_world (fun w' => Blk w' (w.heap.size + 1) [.int .i64 6, .int .i64 nu, .string ⟨#[]⟩, .int .i64 0, .int .u32 0, .int .i64 0, .string ⟨#[]⟩, .int .i64 0, .int .i64 0, .bool false, .slice none 0 0] 25 ∧ Blk w' w.heap.size [.int .i64 6, .int .i64 nu, .string nm, .int .i64 sz, .int .u32 su, .int .i64 of, .string da, .int .i64 wy, .int .i64 an, .bool me, .slice ga gs.length gc] 25 ∧ Below w.heap.size w w') ⟨Blk.new_at _ _ _ _ (by simp), HA.out.alloc _, HL.out.alloc HL.out.size _⟩ ?_
  clear HA HL HN x0 x1 x2 x3 x4 x5 x6 x7 x8 x9 x10
  rintro v ⟨hH, hA, hL⟩
  have HH := Lib.hid hH; have HA := Lib.hid hA; have HL := Lib.hid hL
  clear hH hA hL
  go_cut [2] (fun p wx => p = .bool false ∧ Blk wx (w.heap.size + 1) [.int .i64 6, .int .i64 nu, .string ⟨#[]⟩, .int .i64 0, .int .u32 0, .int .i64 0, .string ⟨#[]⟩, .int .i64 0, .int .i64 an, .bool false, .slice none 0 0] 25 ∧ Blk wx w.heap.size [.int .i64 6, .int .i64 nu, .string nm, .int .i64 sz, .int .u32 su, .int .i64 of, .string da, .int .i64 wy, .int .i64 an, .bool me, .slice ga gs.length gc] 25 ∧ Below w.heap.size w wx)
  case first =>
    have x0 := HA.out.cell 0
    have x1 := HA.out.cell 1
    have x2 := HA.out.cell 2
    have x3 := HA.out.cell 3
    have x4 := HA.out.cell 4
    have x5 := HA.out.cell 5
    have x6 := HA.out.cell 6
    have x7 := HA.out.cell 7
    have x8 := HA.out.cell 8
    have x9 := HA.out.cell 9
    have x10 := HA.out.cell 10
    simp only [List.getElem?_cons_zero, List.getElem?_cons_succ] at x0 x1 x2 x3 x4 x5 x6 x7 x8 x9 x10
    have f8 := HH.out.free 8
    have h8 := HH.out.cell 8
    simp only [List.getElem?_cons_zero, List.getElem?_cons_succ] at h8
    go_wp2_with fail
    all_goals
      go_meet
      first
      | exact ⟨by with_reducible rfl, (HH.out.set 8 _), (HA.out.set_far (by simp) _), (HL.out.setCell (by simp) _)⟩
  case rest =>
    obtain ⟨rfl, hH, hA, hL⟩ := hcut
    have HH2 := Lib.hid hH; have HA2 := Lib.hid hA; have HL2 := Lib.hid hL
    clear hH hA hL HH HA HL
    have x0 := HA2.out.cell 0
    have x1 := HA2.out.cell 1
    have x2 := HA2.out.cell 2
    have x3 := HA2.out.cell 3
    have x4 := HA2.out.cell 4
    have x5 := HA2.out.cell 5
    have x6 := HA2.out.cell 6
    have x7 := HA2.out.cell 7
    have x8 := HA2.out.cell 8
    have x9 := HA2.out.cell 9
    have x10 := HA2.out.cell 10
    simp only [List.getElem?_cons_zero, List.getElem?_cons_succ] at x0 x1 x2 x3 x4 x5 x6 x7 x8 x9 x10
    cases p0 <;> cases p1
    · go_wp2_with fail
      go_ret
      exact ⟨by simp, HL2.out⟩
    · clear x0 x1 x2 x3 x4 x5 x6 x7 x8 x9 x10
      have x0 := HA2.out.cell 0
      have x1 := HA2.out.cell 1
      have x2 := HA2.out.cell 2
      have x3 := HA2.out.cell 3
      have x4 := HA2.out.cell 4
      have x5 := HA2.out.cell 5
      have x6 := HA2.out.cell 6
      have x7 := HA2.out.cell 7
      have x8 := HA2.out.cell 8
      have x9 := HA2.out.cell 9
      have x10 := HA2.out.cell 10
      simp only [List.getElem?_cons_zero, List.getElem?_cons_succ] at x0 x1 x2 x3 x4 x5 x6 x7 x8 x9 x10
      have y0 := HH2.out.cell 0
      have y1 := HH2.out.cell 1
      have y2 := HH2.out.cell 2
      have y3 := HH2.out.cell 3
      have y4 := HH2.out.cell 4
      have y5 := HH2.out.cell 5
      have y6 := HH2.out.cell 6
      have y7 := HH2.out.cell 7
      have y8 := HH2.out.cell 8
      have y9 := HH2.out.cell 9
      have y10 := HH2.out.cell 10
      simp only [List.getElem?_cons_zero, List.getElem?_cons_succ] at y0 y1 y2 y3 y4 y5 y6 y7 y8 y9 y10
      go_wp2_with fail
      refine (HS.out _ (HGo.out.below HL2.out (Nat.le_refl _)) (HGv.out.below HL2.out (Nat.le_refl _))).mono ?_
      rintro e w7 ⟨rfl, hL7⟩
      replace HL2 := Lib.hid (HL2.out.trans (hL7.mono HL2.out.size))
      clear hL7
      go_wp2_with fail
      go_ret
      exact ⟨by simp, HL2.out⟩
    · clear x0 x1 x2 x3 x4 x5 x6 x7 x8 x9 x10
      have x0 := HA2.out.cell 0
      have x1 := HA2.out.cell 1
      have x2 := HA2.out.cell 2
      have x3 := HA2.out.cell 3
      have x4 := HA2.out.cell 4
      have x5 := HA2.out.cell 5
      have x6 := HA2.out.cell 6
      have x7 := HA2.out.cell 7
      have x8 := HA2.out.cell 8
      have x9 := HA2.out.cell 9
      have x10 := HA2.out.cell 10
      simp only [List.getElem?_cons_zero, List.getElem?_cons_succ] at x0 x1 x2 x3 x4 x5 x6 x7 x8 x9 x10
      have y0 := HH2.out.cell 0
      have y1 := HH2.out.cell 1
      have y2 := HH2.out.cell 2
      have y3 := HH2.out.cell 3
      have y4 := HH2.out.cell 4
      have y5 := HH2.out.cell 5
      have y6 := HH2.out.cell 6
      have y7 := HH2.out.cell 7
      have y8 := HH2.out.cell 8
      have y9 := HH2.out.cell 9
      have y10 := HH2.out.cell 10
      simp only [List.getElem?_cons_zero, List.getElem?_cons_succ] at y0 y1 y2 y3 y4 y5 y6 y7 y8 y9 y10
      go_wp2_with fail
      refine (HS.out _ (HGo.out.below HL2.out (Nat.le_refl _)) (HGv.out.below HL2.out (Nat.le_refl _))).mono ?_
      rintro e w7 ⟨rfl, hL7⟩
      replace HL2 := Lib.hid (HL2.out.trans (hL7.mono HL2.out.size))
      clear hL7
      go_wp2_with fail
      go_ret
      exact ⟨by simp, HL2.out⟩
    · clear x0 x1 x2 x3 x4 x5 x6 x7 x8 x9 x10
      have x0 := HA2.out.cell 0
      have x1 := HA2.out.cell 1
      have x2 := HA2.out.cell 2
      have x3 := HA2.out.cell 3
      have x4 := HA2.out.cell 4
      have x5 := HA2.out.cell 5
      have x6 := HA2.out.cell 6
      have x7 := HA2.out.cell 7
      have x8 := HA2.out.cell 8
      have x9 := HA2.out.cell 9
      have x10 := HA2.out.cell 10
      simp only [List.getElem?_cons_zero, List.getElem?_cons_succ] at x0 x1 x2 x3 x4 x5 x6 x7 x8 x9 x10
      have y0 := HH2.out.cell 0
      have y1 := HH2.out.cell 1
      have y2 := HH2.out.cell 2
      have y3 := HH2.out.cell 3
      have y4 := HH2.out.cell 4
      have y5 := HH2.out.cell 5
      have y6 := HH2.out.cell 6
      have y7 := HH2.out.cell 7
      have y8 := HH2.out.cell 8
      have y9 := HH2.out.cell 9
      have y10 := HH2.out.cell 10
      simp only [List.getElem?_cons_zero, List.getElem?_cons_succ] at y0 y1 y2 y3 y4 y5 y6 y7 y8 y9 y10
      go_wp2_with fail
      refine (HS.out _ (HGo.out.below HL2.out (Nat.le_refl _)) (HGv.out.below HL2.out (Nat.le_refl _))).mono ?_
      rintro e w7 ⟨rfl, hL7⟩
      replace HL2 := Lib.hid (HL2.out.trans (hL7.mono HL2.out.size))
      clear hL7
      go_wp2_with fail
      go_ret
      exact ⟨by simp, HL2.out⟩
end Go.Proofs.Ytkpgenmlpkfokaa
