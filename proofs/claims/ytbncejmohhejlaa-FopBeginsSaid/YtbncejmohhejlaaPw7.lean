/- What is proved here: the walk of what the pair does with a frame that arrives. -/
import Derived.Test.YtbncejmohhejlaaPw6
set_option linter.unusedVariables false
set_option linter.unusedSimpArgs false
namespace Go.Proofs.Ytbncejmohhejlaa
open Go.RowKit
theorem arrive_none {w W : World} {P gf gg : Nat} {uv dv nv av : Value} {p : Pr} (room : Bool) (hd : p.up = []) (h : PairAt w W P gf gg uv dv nv av p) :
    Calls Try.prog 32 #[.pointer (some ⟨P, 0, none⟩), .bool room] W fun e w' => e = .returned (.bool true) ∧ w' = W := by
  obtain ⟨va, vc, hve⟩ := qform h.up
  rw [hd] at hve
  subst hve
  have c2 := h.blk.cell 2
  simp only [pairCells, List.getElem?_cons_zero, List.getElem?_cons_succ, List.length_nil] at c2
  clear h
  go_enter Try.func32, Try.ntmps32
  go_wp2_with fail
  go_ret
  exact ⟨rfl, rfl⟩
def arriveP (p : Pr) (x : Tc) (l : List Tc) (room : Bool) : Pr := { p with f := (takeF p.f x room).1, up := l, acc := if ((takeF p.f x room).2.1 && !x.byp) = true then p.acc ++ [x.data] else p.acc }
set_option maxHeartbeats 8000000 in
set_option maxRecDepth 100000 in
theorem arrive_some {w W : World} {P gf gg : Nat} {uv dv nv av : Value} {p : Pr} {x : Tc} {l : List Tc} (room : Bool) (hx : p.up = x :: l) (hl : l.length ≤ 1000000) (hU : p.units.length ≤ 1000000) (hA : p.acc.length ≤ 1000000) (hok : p.f.ok)
    (he : (takeF p.f x room).2.2 = 0) (hby : x.byp = true → x.data = bypD) (hin : (takeF p.f x room).2.1 = true → x.byp = false → p.acc.length < p.units.length ∧ p.units.getD p.acc.length ⟨#[]⟩ = x.data) (h : PairAt w W P gf gg uv dv nv av p) :
    Calls Try.prog 32 #[.pointer (some ⟨P, 0, none⟩), .bool room] W fun e w' => e = .returned (.bool true) ∧ ∃ uv' av', PairAt w w' P gf gg uv' dv nv av' (arriveP p x l room) := by
  have HTK : ∀ (W1 : World), Blk W1 gg p.f.cells 112 → Calls Try.prog 53 #[.pointer (some ⟨gg, 0, none⟩), x.val, .bool room] W1 fun e w' => e = .returned (.tuple #[.bool (takeF p.f x room).2.1, .int .i64 0]) ∧ Keep [gg] W1 w' ∧ Blk w' gg (takeF p.f x room).1.cells 112 := by
    intro W1 hB
    have := Take_any p.f x room gg W1 hok hB
    rw [he] at this
    exact this
  unfold arriveP
  obtain ⟨T, hT⟩ : ∃ T, T = takeF p.f x room := ⟨_, rfl⟩
  rw [← hT] at HTK hin ⊢
  clear hT he hok
  obtain ⟨f', ok, er⟩ := T
  simp only at HTK hin ⊢
  have hdq := h.up
  rw [hx] at hdq
  have hdq' : QRow W 0 31 6 uv (l.length + 1) (tcRow (x :: l)) := hdq
  clear hdq
  have HTK' := Lib.hid HTK
  clear HTK
  obtain ⟨q, off, cap, hve, -, hqw, hcap, hcl, hfr⟩ := q_cells hdq' (by omega)
  obtain ⟨c, ch, b, ck, sq, d⟩ := x
  have d0 : W.cell? ⟨q, off, none⟩ = some (.int .i64 c) := hcl 0 _ rfl
  have d1 : W.cell? ⟨q, off + 1, none⟩ = some (.int .i64 ch) := hcl 1 _ rfl
  have d2 : W.cell? ⟨q, off + 2, none⟩ = some (.bool b) := hcl 2 _ rfl
  have d3 : W.cell? ⟨q, off + 3, none⟩ = some (.bool ck) := hcl 3 _ rfl
  have d4 : W.cell? ⟨q, off + 4, none⟩ = some (.int .i64 sq) := hcl 4 _ rfl
  have d5 : W.cell? ⟨q, off + 5, none⟩ = some (.string d) := hcl 5 _ rfl
  subst hve
  obtain ⟨v', hsl, hq', hown⟩ := up_tail hdq'
  have hsl2 : ∀ W, Sem.run Try.prog (Instr.sliceAt 76 (.slice (some ⟨q, off, none⟩) (l.length + 1) cap) (some (.int .i64 1)) none none) W = .ok v' W := hsl
  obtain ⟨va, vc, hve'⟩ := qform hq'
  subst hve'
  have hP0 := h.below ((Below.refl _ _).alloc (Nat.le_refl _) (Obj.cells #[.int .i64 c, .int .i64 ch, .bool b, .bool ck, .int .i64 sq, .string d] 31))
  have c2 := h.blk.cell 2
  have e2 := hP0.blk.cell 2; have f2 := hP0.blk.free 2
  simp only [pairCells, List.getElem?_cons_zero, List.getElem?_cons_succ] at c2 e2
  have k2 : (((l.length + 1 : Nat) : Int) == 0) = false := by simp; omega
  have hlt := h.fop.lt
  have HP := Lib.hid hP0; have HQ := Lib.hid hq'; have HO := Lib.hid hown
  have HX := Lib.hid (Blk.new W [.int .i64 c, .int .i64 ch, .bool b, .bool ck, .int .i64 sq, .string d] 31)
  obtain ⟨r, hr⟩ : ∃ r, r = W.heap.size := ⟨_, rfl⟩
  have HLT := Lib.hid hlt
  clear h hq' hown hcl hfr hdq' hsl hP0 hlt
  go_enter Try.func32, Try.ntmps32
  go_upto_region 5 with fail
  rw [← hr] at HX HLT
  have hfar := HP.out.far
  have hPA : PairAt w ((W.alloc (Obj.cells #[.int .i64 c, .int .i64 ch, .bool b, .bool ck, .int .i64 sq, .string d] 31)).setCell ⟨P, 2, none⟩ (.slice va l.length vc)) P gf gg (.slice va l.length vc) dv nv av { p with up := l } :=
    HP.out.rowUp (((Keep.refl _ _).setCell (.inl (by simp)) _)) (fun j hj => .inl (by rw [← HO.out]; exact hj)) (q_keep (q_alloc HQ.out _) ((Keep.refl [P] _).setCell (.inl (by simp)) _) (by rw [HO.out]; exact far_not (hfar.1 _ (by simp)) rfl)) (HP.out.blk.set 2 _)
  have hr1 : ∀ i ∈ blocks [bv P, bv gg, .slice va l.length vc, dv, nv, av], i < r := by
    intro i hi
    refine (HLT.out i ?_).2
    obtain ⟨v, hv, hb⟩ := mem_blocks.1 hi
    simp only [List.mem_cons, List.not_mem_nil, or_false] at hv
    rcases hv with e | e | e | e | e | e
    · subst e; exact in_blocks (v := bv P) (by simp) hb
    · subst e; exact in_blocks (v := bv gg) (by simp) hb
    · subst e; rw [HO.out] at hb; exact mem_blocks.2 ⟨_, by simp, hb⟩
    · rw [e] at hb; exact mem_blocks.2 ⟨dv, by simp, hb⟩
    · rw [e] at hb; exact mem_blocks.2 ⟨nv, by simp, hb⟩
    · rw [e] at hb; exact mem_blocks.2 ⟨av, by simp, hb⟩
  have hPr : r ≠ P := fun e => by have := hr1 P PairAt.hP; omega
  refine gen_world (fun W => PairAt w W P gf gg (.slice va l.length vc) dv nv av { p with up := l } ∧ Blk W r [.int .i64 c, .int .i64 ch, .bool b, .bool ck, .int .i64 sq, .string d] 31) ⟨hPA, HX.out.keep ((Keep.refl [P] _).setCell (p := ⟨P, 2, none⟩) (.inl (by simp)) _) (by simpa using hPr)⟩ ?_
  have HR1 := Lib.hid hr1
  rw [← hr]
  clear HP HQ HO HX HLT hfar hPA hr1 hPr hr hqw d0 d1 d2 d3 d4 d5 hsl2 c2 e2 f2 k2 hcap
  rintro W1 ⟨hPA, hX⟩
  have HP := Lib.hid hPA; have HX := Lib.hid hX; clear hPA hX
  have c1 := HP.out.blk.cell 1
  simp only [pairCells, List.getElem?_cons_zero, List.getElem?_cons_succ] at c1
  have x0 := HX.out.cell 0
  have x1 := HX.out.cell 1
  have x2 := HX.out.cell 2
  have x3 := HX.out.cell 3
  have x4 := HX.out.cell 4
  have x5 := HX.out.cell 5
  simp only [List.getElem?_cons_zero, List.getElem?_cons_succ] at x0 x1 x2 x3 x4 x5
  go_cut [6, 7] (fun p6 p7 W2 => p6 = .bool ok ∧ p7 = .int .i64 0 ∧ Keep [gg] W1 W2 ∧ Blk W2 gg f'.cells 112)
  case first =>
    as_aux_lemma =>
      go_region_with (first | (go_at_call 53; refine (HTK'.out _ HP.out.drew.farm).mono ?_; rintro e W2 ⟨rfl, hK, hB⟩) | fail)
      all_goals
        go_wp2_with fail
        go_meet
        exact ⟨rfl, rfl, ((Keep.refl _ _).drew).trans hK, hB⟩
  case rest =>
    obtain ⟨rfl, rfl, hK, hB⟩ := hcut
    have HP2 := Lib.hid (HP.out.board hK hB)
    have hgr : r ∉ [gg] := fun hm => by simp at hm; have := HR1.out gg (in_blocks (v := bv gg) (by simp) rfl); omega
    have HX2 := Lib.hid (HX.out.keep hK hgr)
    clear hK hB HP HX hgr c1 x0 x1 x2 x3 x4 x5 HTK'
    have x0 := HX2.out.cell 0
    have x1 := HX2.out.cell 1
    have x2 := HX2.out.cell 2
    have x3 := HX2.out.cell 3
    have x4 := HX2.out.cell 4
    have x5 := HX2.out.cell 5
    simp only [List.getElem?_cons_zero, List.getElem?_cons_succ] at x0 x1 x2 x3 x4 x5
    cases ok
    · clear hin
      go_wp2_with fail
      go_ret
      exact ⟨rfl, _, av, HP2.out⟩
    · cases b
      · obtain ⟨hi1, hi2⟩ := hin rfl rfl
        clear hby hin
        simp only at hi2
        have hP2r : r ∉ av.ownBlock.toList := fun hm => by have := HR1.out r (in_blocks (v := av) (by simp) (by simpa using hm)); omega
        have hrP : r ≠ P := fun e => by have := HR1.out P PairAt.hP; omega
        by_cases hq : d.toList = [98, 121, 112, 97, 115, 115]
        all_goals
          go_upto_region 9 with fail
          obtain ⟨i0, hi0, hz0, hz1, hz2⟩ := info_parts info_s1
          have x0 : ∀ W', Keep av.ownBlock.toList wc W' → (W'.cell? ⟨P, 5, none⟩ = some av ∧ W'.cell? ⟨r, 5, none⟩ = some (.string d)) := fun W' k => ⟨(HP2.out.sure (v := av) (by simp) k).1.cell 5, (HX2.out.keep k hP2r).cell 5⟩
          refine region_end (fun W' => Keep av.ownBlock.toList wc W') 11 (by kernel_rfl) ((Keep.refl _ _).drew) (fun hInv hHeld => ?_)
          have hL0 : Below wc.heap.size wc wc.drew := (Below.refl _ _).drew
          refine WpEnd.take (i := 0) (some 61) (v := ?_) rfl rfl (by kernel_rfl) (by kernel_rfl) (by kernel_rfl) (fun _ _ _ h => h) (by kernel_rfl) hInv (by assumption) (by rfl) ?_ (fun hInv2 => ?_)
          rotate_left
          · (intro w hSw; (try dsimp only at hSw); have hSx := x0 _ hSw; go_simp; (try with_reducible rfl))
          clear hInv; have hInv := hInv2; clear hInv2
          simp only [Act.put, List.setIfInBounds_toArray, List.set_cons_zero, List.set_cons_succ]
          refine WpEnd.take (i := 1) (some 62) (v := ?_) rfl rfl (by kernel_rfl) (by kernel_rfl) (by kernel_rfl) (fun _ _ _ h => h) (by kernel_rfl) hInv (by assumption) (by rfl) ?_ (fun hInv2 => ?_)
          rotate_left
          · (intro w hSw; (try dsimp only at hSw); have hSx := x0 _ hSw; go_simp; (try with_reducible rfl))
          clear hInv; have hInv := hInv2; clear hInv2
          simp only [Act.put, List.setIfInBounds_toArray, List.set_cons_zero, List.set_cons_succ]
          refine WpEnd.take (i := 2) (some 63) (v := ?_) rfl rfl (by kernel_rfl) (by kernel_rfl) (by kernel_rfl) (fun _ _ _ h => h) (by kernel_rfl) hInv (by assumption) (by rfl) ?_ (fun hInv2 => ?_)
          rotate_left
          · (intro w hSw; (try dsimp only at hSw); have hSx := x0 _ hSw; go_simp; (try with_reducible rfl))
          clear hInv; have hInv := hInv2; clear hInv2
          simp only [Act.put, List.setIfInBounds_toArray, List.set_cons_zero, List.set_cons_succ]
          refine WpEnd.take (i := 3) (some 64) (v := ?_) rfl rfl (by kernel_rfl) (by kernel_rfl) (by kernel_rfl) (fun _ _ _ h => h) (by kernel_rfl) hInv (by assumption) (by rfl) ?_ (fun hInv2 => ?_)
          rotate_left
          · (intro w hSw; (try dsimp only at hSw); have hSx := x0 _ hSw; go_simp; (try with_reducible rfl))
          clear hInv; have hInv := hInv2; clear hInv2
          simp only [Act.put, List.setIfInBounds_toArray, List.set_cons_zero, List.set_cons_succ]
          refine WpEnd.take (i := 4) (some 65) (v := ?_) rfl rfl (by kernel_rfl) (by kernel_rfl) (by kernel_rfl) (fun _ _ _ h => h) (by kernel_rfl) hInv (by assumption) (by rfl) ?_ (fun hInv2 => ?_)
          rotate_left
          · (intro w hSw; (try dsimp only at hSw); have hSx := x0 _ hSw; go_simp; (try with_reducible rfl))
          clear hInv; have hInv := hInv2; clear hInv2
          simp only [Act.put, List.setIfInBounds_toArray, List.set_cons_zero, List.set_cons_succ]
          refine WpEnd.take (i := 5) (some 66) (v := ?_) rfl rfl (by kernel_rfl) (by kernel_rfl) (by kernel_rfl) (fun _ _ _ h => h) (by kernel_rfl) hInv (by assumption) (by rfl) ?_ (fun hInv2 => ?_)
          rotate_left
          · (intro w hSw; (try dsimp only at hSw); have hSx := x0 _ hSw; go_simp; (try with_reducible rfl))
          clear hInv; have hInv := hInv2; clear hInv2
          simp only [Act.put, List.setIfInBounds_toArray, List.set_cons_zero, List.set_cons_succ]
          refine WpEnd.take (i := 6) (some 67) (v := ?_) rfl rfl (by kernel_rfl) (by kernel_rfl) (by kernel_rfl) (fun _ _ _ h => h) (by kernel_rfl) hInv (by assumption) (by rfl) ?_ (fun hInv2 => ?_)
          rotate_left
          · (intro w hSw; (try dsimp only at hSw); have hSx := x0 _ hSw; go_simp; (try with_reducible rfl))
          clear hInv; have hInv := hInv2; clear hInv2
          simp only [Act.put, List.setIfInBounds_toArray, List.set_cons_zero, List.set_cons_succ]
          refine WpEnd.ready (rs := [7]) (by kernel_rfl) (by simp) ?_
          refine EachEnd.cons (some 68) rfl rfl (by decide) (by kernel_rfl) hInv (fun K hKK hKB => ?_) EachEnd.nil
          refine step_build_1 62 9 ([Value.string d]) rfl _ rfl _ rfl (build_str _ d) ?_
          have hL1 := hL0.alloc hL0.size (Obj.cells ([Value.string d]).toArray 9)
          have hy1 := Blk.new wc.drew ([Value.string d]) 9
          obtain ⟨nb, hnb⟩ : ∃ nb, nb = (wc.drew).heap.size := ⟨_, rfl⟩
          rw [← hnb] at hy1 ⊢
          obtain ⟨Wb, hWb⟩ : ∃ Wb, Wb = (wc.drew).alloc (Obj.cells ([Value.string d]).toArray 9) := ⟨_, rfl⟩
          rw [← hWb] at hL1 hy1 ⊢
          refine hKK.out _ _ ((Keep.refl _ _).below hL1 (Nat.le_refl _)) (fun hInv2 hHeld2 => ?_)
          clear hKK hKB K hWb hnb hInv hHeld; have hInv := hInv2; have hHeld := hHeld2; clear hInv2 hHeld2
          simp only [Act.put, List.setIfInBounds_toArray, List.set_cons_zero, List.set_cons_succ]
          refine WpEnd.ready (rs := [8]) (by kernel_rfl) (by simp) ?_
          refine EachEnd.cons (some 69) rfl rfl (by decide) (by kernel_rfl) hInv (fun K hKK hKB => ?_) EachEnd.nil
          refine step_append_q 62 9 1 16 i0 (.string ⟨#[]⟩) rfl _ _ rfl Try.underlying62 hi0 hz0 rfl hz1 hz2 0 av p.acc.length _ rfl (q_below HP2.out.acc hL1 (Nat.le_refl _)) nb 0 1 1 ([Value.string d]) rfl rfl (by intro u hu; simp at hu; subst hu; rfl) (fun j u hj => by rw [Nat.zero_add]; exact (hy1.cell j).trans hj) (by omega) (by unfold maxLen; omega) (Nat.zero_le _) ?_
          intro v' Wd hq2 hk2 hm2
          refine hKK.out _ _ (((Keep.refl _ _).below hL1 (Nat.le_refl _)).trans hk2) (fun hInv2 hHeld2 => ?_)
          clear hKK hKB K hInv hHeld; have hInv := hInv2; have hHeld := hHeld2; clear hInv2 hHeld2
          simp only [Act.put, List.setIfInBounds_toArray, List.set_cons_zero, List.set_cons_succ]
          refine WpEnd.take (i := 9) (some 70) (v := ?_) rfl rfl (by kernel_rfl) (by kernel_rfl) (by kernel_rfl) (fun _ _ _ h => h) (by kernel_rfl) hInv (by assumption) (by rfl) ?_ (fun hInv2 => ?_)
          rotate_left
          · (intro w hSw; (try dsimp only at hSw); have hSx := x0 _ hSw; go_simp; (try with_reducible rfl))
          clear hInv; have hInv := hInv2; clear hInv2
          simp only [Act.put, List.setIfInBounds_toArray, List.set_cons_zero, List.set_cons_succ]
          refine WpEnd.take (i := 10) (some 71) (v := ?_) rfl rfl (by kernel_rfl) (by kernel_rfl) (by kernel_rfl) (fun _ _ _ h => h) (by kernel_rfl) hInv (by assumption) (by rfl) ?_ (fun hInv2 => ?_)
          rotate_left
          · (intro w hSw; (try dsimp only at hSw); have hSx := x0 _ hSw; go_simp; (try with_reducible rfl))
          clear hInv; have hInv := hInv2; clear hInv2
          simp only [Act.put, List.setIfInBounds_toArray, List.set_cons_zero, List.set_cons_succ]
          refine WpEnd.ready (rs := [11]) (by kernel_rfl) (by simp) ?_
          refine EachEnd.last rfl (fun K hKK => ?_)
          have c0 := (HP2.out.sure (v := av) (by simp) hHeld).1.cell 5
          have f0 := (HP2.out.sure (v := av) (by simp) hHeld).1.free 5
          simp only [pairCells, List.getElem?_cons_zero, List.getElem?_cons_succ] at c0
          have hP3 := HP2.out.pushAcc (l := (p.acc ++ [d])) hL1 hk2 hm2 (by simp only [List.length_append, List.length_singleton, stRow_snoc]; exact hq2)
          have hrn : r ∉ v'.ownBlock.toList := fun hm => by
            rcases hm2 with e | e
            · exact hP2r (by rw [← e]; exact hm)
            · rw [e] at hm; simp at hm
              have := HX2.out.lt; have := hL1.size; omega
          obtain ⟨ra, rc, hve⟩ := qform hq2
          subst hve
          have hR3 := (HX2.out.keep hHeld hP2r).keep ((Keep.refl [P] _).setCell (p := ⟨P, 5, none⟩) (.inl (by simp)) (.slice ra (p.acc.length + 1) rc)) (by simpa using hrP)
          go_simp
          refine hKK.out _ _ ?_
          clear hKK K
          refine WpEnd.done (by kernel_rfl) ?_ _
          refine post_any (fun W' => PairAt w W' P gf gg (.slice va l.length vc) dv nv (.slice ra (p.acc.length + 1) rc) { { { p with up := l } with f := f' } with acc := (p.acc ++ [d]) } ∧ Blk W' r [.int .i64 c, .int .i64 ch, .bool false, .bool ck, .int .i64 sq, .string d] 31 ∧ r ∉ (Value.slice ra (p.acc.length + 1) rc).ownBlock.toList) ⟨hP3, hR3, hrn⟩ ?_
          clear hP3 hR3 hrn hm2 hq2 hk2 hy1 hL1 hL0 hHeld hInv c0 f0 x0 hi0 hz0 hz1 hz2 i0 
          rintro W3 hPR
          obtain ⟨hP3, hR3, -⟩ := hPR
          have hnu : p.acc.length < p.units.length := hi1
          obtain ⟨uq, uoff, ucap, hnv, -, hnqw, hucap, hncl, hnfr⟩ := q_cells hP3.units (by show 0 < p.units.length; omega)
          have dN : W3.cell? ⟨uq, uoff + p.acc.length, none⟩ = some (.string d) := hncl p.acc.length (.string d) (by show (stRow p.units)[p.acc.length]? = _; unfold stRow; rw [List.getElem?_map, List.getElem?_eq_getElem hi1, ← hi2, List.getD_eq_getElem?_getD, List.getElem?_eq_getElem hi1]; rfl)
          subst hnv
          have e4 := hP3.blk.cell 4; have e5 := hP3.blk.cell 5
          have x5 := hR3.cell 5
          simp only [pairCells, List.getElem?_cons_zero, List.getElem?_cons_succ] at e4 e5 x5
          have HP3 := Lib.hid hP3
          have k1 : ¬ (p.units.length : Int) < (p.acc.length : Int) + 1 := by omega
          have k2 : ¬ p.units.length < p.acc.length + 1 := by omega
          have k3 : (p.acc.length : Int) < (p.units.length : Int) := by omega
          clear hP3 hR3 hncl hnfr hucap hnqw HP2 HX2
          go_upto_region 10 with fail
          go_quiet (fail)
          refine post_any (fun W => PairAt w W P gf gg (.slice va l.length vc) dv (.slice (some ⟨uq, uoff, none⟩) p.units.length ucap) (.slice ra (p.acc.length + 1) rc) { p with f := f', up := l, acc := p.acc ++ [d] }) (HP3.out.drewN _) ?_
          clear HP3 e4 e5 x5 dN k1 k2 k3
          rintro W4 hP4
          have HP4 := Lib.hid hP4; clear hP4
          go_wp2_with fail
          go_ret
          exact ⟨rfl, _, _, HP4.out⟩
      · have hd : d = ⟨#[98, 121, 112, 97, 115, 115]⟩ := hby rfl
        subst hd
        clear hin
        go_wp2_with fail
        go_ret
        exact ⟨rfl, _, av, HP2.out⟩
end Go.Proofs.Ytbncejmohhejlaa