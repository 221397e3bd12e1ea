/- What is proved here: the walk of the reference's Put of valid units. -/
import Derived.Test.YtkpgenmlpkfokaaN17
import Derived.Test.YtkpgenmlpkfokaaC6
set_option linter.unusedVariables false
set_option linter.unusedSimpArgs false
namespace Go.Proofs.Ytkpgenmlpkfokaa
open Go.RowKit
theorem vbytes_str (n : Int) (m : Nat) (hm : m ≤ 8) (h1 : 0 ≤ n) (h2 : n ≤ 9223372036854775807) : ∃ s : ByteArray, Hid (s.data.toList = beN m n) ∧ s.size ≤ 8 ∧ Hid (∀ W, Calls Try.prog 27 #[.int .i64 n, .int .i64 (m : Int)] W fun e w' => e = .returned (.string s) ∧ Below W.heap.size W w') :=
  ⟨⟨(beN m n).toArray⟩, Lib.hid rfl, by rw [size_mk, beN_length]; omega, Lib.hid fun W => vbytes_any n m W hm h1 h2⟩
theorem cat_list (a b : ByteArray) : (a ++ b).data.toList = a.data.toList ++ b.data.toList := by simp
theorem cat_size (a b : ByteArray) : (a ++ b).size = a.size + b.size := by simp
theorem valid_nums (k : Nat) (u : Un) (hk : u.kind = k) (hv : validS u = true) : 0 ≤ u.num ∧ u.num ≤ 65535 ∧ validU k u = true := by
  simp only [validS, Bool.and_eq_true, decide_eq_true_eq] at hv
  obtain ⟨⟨⟨h1, h2⟩, h3⟩, h4⟩ := hv
  rw [hk] at h4
  exact ⟨h2.1, h2.2, h4⟩
theorem okGaps_in : ∀ (l : List Gp) (last : Int), -1 ≤ last → okGaps last l = true → ∀ i (h : i < l.length), 0 ≤ (l[i]).1 ∧ (l[i]).1 ≤ 65535 ∧ 0 ≤ (l[i]).2 ∧ (l[i]).2 ≤ 65535
  | [], _, _, _, i, h => by simp at h
  | g :: l, last, hl, ho, i, h => by
    simp only [okGaps, Bool.and_eq_true, decide_eq_true_eq] at ho
    obtain ⟨⟨h1, h2, h3⟩, h4⟩ := ho
    cases i with
    | zero => simp only [List.getElem_cons_zero]; omega
    | succ i => simpa using okGaps_in l g.2 (by omega) h4 i (by simpa using h)
set_option maxHeartbeats 8000000 in
set_option maxRecDepth 100000 in
theorem vPut1 (u : Un) (gv : Value) (w : World) (hk : u.kind = 1) (hn : u.name.size ≤ 100000) (hd : u.data.size ≤ 100000) (hg : u.gaps.length ≤ 1000) (hi : intsU u) (hv : validS u = true) (hG : GapsAt w gv u.gaps) :
    Calls Try.prog 13 #[u.val gv] w fun e w' => e = .returned (.tuple #[strOf (encU u), .int .i64 0]) ∧ Below w.heap.size w w' := by
  have hs : wideU u := ⟨by omega, by omega, by omega⟩
  have HA := Lib.hid (Blk.new w (u.cells gv) 25)
  have HL := Lib.hid ((Below.refl w.heap.size w).alloc (Nat.le_refl _) (Obj.cells (u.cells gv).toArray 25))
  have HV := Lib.hid (vValid_any u gv (w.alloc (Obj.cells (u.cells gv).toArray 25)) hs (hG.below HL.out (Nat.le_refl _)))
  rw [hv] at HV
  obtain ⟨n0, n1, nv⟩ := valid_nums 1 u hk hv
  have HE := Lib.hid (show encU u = sumB (headU u ++ bodyU 1 u) by rw [encU, hk]; rfl)
  obtain ⟨el, hel⟩ : ∃ el, el = encU u := ⟨_, rfl⟩
  rw [← hel] at HE ⊢
  obtain ⟨-, -, -, -, -, -, hs0, hs1, -⟩ := hi
  obtain ⟨ga, gc, rfl, hG⟩ := hG
  have HG := Lib.hid hG
  obtain ⟨ki, nu, nm, sz, su, of, da, wy, an, me, gs⟩ := u
  simp only at hk
  subst hk
  simp only [Un.cells, Un.val, headU, bodyU, validU] at HA HL HV HE HG n0 n1 nv hn hd hg hs0 hs1 ⊢
  clear hs hv hel hG
  simp only [Bool.and_eq_true, Bool.or_eq_true, decide_eq_true_eq, beq_iff_eq] at nv
  obtain ⟨s1, S1, z1, B1⟩ := vbytes_str 1 1 (by omega) (by omega) (by omega)
  obtain ⟨s2, S2, z2, B2⟩ := vbytes_str nu 2 (by omega) n0 (by omega)
  obtain ⟨s3, S3, z3, B3⟩ := vbytes_str sz 2 (by omega) (by omega) (by omega)
  clear nv
  have x0 := HA.out.cell 0
  have x1 := HA.out.cell 1
  have x2 := HA.out.cell 2
  have x3 := HA.out.cell 3
  have x4 := HA.out.cell 4
  have x5 := HA.out.cell 5
  have x6 := HA.out.cell 6
  have x7 := HA.out.cell 7
  have x8 := HA.out.cell 8
  have x9 := HA.out.cell 9
  have x10 := HA.out.cell 10
  simp only [List.getElem?_cons_zero, List.getElem?_cons_succ] at x0 x1 x2 x3 x4 x5 x6 x7 x8 x9 x10
  go_enter Try.func13, Try.ntmps13
  go_wp2_with fail
  refine HV.out.mono ?_
  rintro e w1 ⟨rfl, hL1⟩
  have hbw := HA.out.lt
  replace HA := Lib.hid (HA.out.below hL1 hbw)
  replace HL := Lib.hid (HL.out.trans (hL1.mono (by simp)))
  clear hL1 HV hbw x0 x1 x2 x3 x4 x5 x6 x7 x8 x9 x10
  go_upto_region 3 with fail
  have c0 := cl_blk HA.out 0
  have c1 := cl_blk HA.out 1
  simp only [List.getElem?_cons_zero, List.getElem?_cons_succ] at c0 c1
  refine region_calm w1.heap.size (by kernel_rfl) (by kernel_rfl) ?_
  repeat (go_big_quiet_step ((first | (go_at_call_of 27 (Value.int .i64 nu); exact cl_call _ (Nat.le_refl _) (B2.out _)) | (go_at_call_of 27 (Value.int .i64 1); exact cl_call _ (Nat.le_refl _) (B1.out _)))))
  refine wpQuiet_nil ?_
  intro w2 hL
  replace HL := Lib.hid (HL.out.trans (hL.mono HL.out.size))
  replace HA := Lib.hid (HA.out.below hL HA.out.lt)
  clear hL c0 c1
  obtain ⟨t, ht⟩ : ∃ t, t = s1 ++ s2 := ⟨_, rfl⟩
  rw [← ht]
  have HT := Lib.hid (show t.data.toList = beN 1 1 ++ beN 2 nu by rw [ht, cat_list, S1.out, S2.out])
  have hts : t.size ≤ 16 := by rw [ht, cat_size]; omega
  clear ht
  have x0 := HA.out.cell 0
  have x1 := HA.out.cell 1
  have x2 := HA.out.cell 2
  have x3 := HA.out.cell 3
  have x4 := HA.out.cell 4
  have x5 := HA.out.cell 5
  have x6 := HA.out.cell 6
  have x7 := HA.out.cell 7
  have x8 := HA.out.cell 8
  have x9 := HA.out.cell 9
  have x10 := HA.out.cell 10
  simp only [List.getElem?_cons_zero, List.getElem?_cons_succ] at x0 x1 x2 x3 x4 x5 x6 x7 x8 x9 x10
  go_upto_region 7 with fail
  clear x0 x1 x2 x3 x4 x5 x6 x7 x8 x9 x10
  have c2 := cl_blk HA.out 2
  have c3 := cl_blk HA.out 3
  simp only [List.getElem?_cons_zero, List.getElem?_cons_succ] at c2 c3
  refine region_calm w2.heap.size (by kernel_rfl) (by kernel_rfl) ?_
  repeat (go_big_quiet_step ((first | (go_at_call_of 27 (Value.int .i64 sz); exact cl_call _ (Nat.le_refl _) (B3.out _)))))
  refine wpQuiet_nil ?_
  intro w3 hL
  replace HL := Lib.hid (HL.out.trans (hL.mono HL.out.size))
  clear hL c2 c3 HA
  obtain ⟨f, hf⟩ : ∃ f, f = t ++ s3 ++ nm := ⟨_, rfl⟩
  rw [← hf]
  have HB := Lib.hid (show f.data.toList = [byt 1] ++ beN 2 nu ++ (beN 2 sz ++ nm.data.toList) by
    rw [hf]; simp only [cat_list, HT.out, S3.out]; simp [beN])
  have hfs : f.size ≤ 100100 := by rw [hf]; simp only [cat_size]; omega
  clear hf
  obtain ⟨h16, hh16⟩ : ∃ h, h = sum16 f.data.toList := ⟨_, rfl⟩
  have R16 := Lib.hid (fun W => rSum16 f W (by omega))
  rw [← hh16] at R16
  have q0 := w16_nonneg h16
  have q1 := w16_lt h16
  have hwh : IntKind.i64.wrap (w16 h16) = w16 h16 := IntWalk.i64_in _ (by omega)
  obtain ⟨s9, S9, z9, B9⟩ := vbytes_str (w16 h16) 2 (by omega) q0 (by omega)
  have HF := Lib.hid (show (f ++ s9).data.toList = el by
    rw [cat_list, S9.out, hh16, HE.out, sumB, HB.out]; rfl)
  clear hh16
  go_wp2_with fail
  refine (R16.out _).mono ?_
  rintro e _ ⟨rfl, rfl⟩
  go_wp2_with fail
  refine (B9.out _).mono ?_
  rintro e w9 ⟨rfl, hL⟩
  replace HL := Lib.hid (HL.out.trans (hL.mono HL.out.size))
  clear hL
  go_wp2_with fail
  go_ret2
  exact ⟨by rw [← HF.out]; rfl, HL.out⟩
set_option maxHeartbeats 8000000 in
set_option maxRecDepth 100000 in
theorem vPut2 (u : Un) (gv : Value) (w : World) (hk : u.kind = 2) (hn : u.name.size ≤ 100000) (hd : u.data.size ≤ 100000) (hg : u.gaps.length ≤ 1000) (hi : intsU u) (hv : validS u = true) (hG : GapsAt w gv u.gaps) :
    Calls Try.prog 13 #[u.val gv] w fun e w' => e = .returned (.tuple #[strOf (encU u), .int .i64 0]) ∧ Below w.heap.size w w' := by
  have hs : wideU u := ⟨by omega, by omega, by omega⟩
  have HA := Lib.hid (Blk.new w (u.cells gv) 25)
  have HL := Lib.hid ((Below.refl w.heap.size w).alloc (Nat.le_refl _) (Obj.cells (u.cells gv).toArray 25))
  have HV := Lib.hid (vValid_any u gv (w.alloc (Obj.cells (u.cells gv).toArray 25)) hs (hG.below HL.out (Nat.le_refl _)))
  rw [hv] at HV
  obtain ⟨n0, n1, nv⟩ := valid_nums 2 u hk hv
  have HE := Lib.hid (show encU u = sumB (headU u ++ bodyU 2 u) by rw [encU, hk]; rfl)
  obtain ⟨el, hel⟩ : ∃ el, el = encU u := ⟨_, rfl⟩
  rw [← hel] at HE ⊢
  obtain ⟨-, -, -, -, -, -, hs0, hs1, -⟩ := hi
  obtain ⟨ga, gc, rfl, hG⟩ := hG
  have HG := Lib.hid hG
  obtain ⟨ki, nu, nm, sz, su, of, da, wy, an, me, gs⟩ := u
  simp only at hk
  subst hk
  simp only [Un.cells, Un.val, headU, bodyU, validU] at HA HL HV HE HG n0 n1 nv hn hd hg hs0 hs1 ⊢
  clear hs hv hel hG
  simp only [Bool.and_eq_true, Bool.or_eq_true, decide_eq_true_eq, beq_iff_eq] at nv
  obtain ⟨s1, S1, z1, B1⟩ := vbytes_str 2 1 (by omega) (by omega) (by omega)
  obtain ⟨s2, S2, z2, B2⟩ := vbytes_str nu 2 (by omega) n0 (by omega)
  obtain ⟨s3, S3, z3, B3⟩ := vbytes_str of 2 (by omega) (by omega) (by omega)
  clear nv
  have x0 := HA.out.cell 0
  have x1 := HA.out.cell 1
  have x2 := HA.out.cell 2
  have x3 := HA.out.cell 3
  have x4 := HA.out.cell 4
  have x5 := HA.out.cell 5
  have x6 := HA.out.cell 6
  have x7 := HA.out.cell 7
  have x8 := HA.out.cell 8
  have x9 := HA.out.cell 9
  have x10 := HA.out.cell 10
  simp only [List.getElem?_cons_zero, List.getElem?_cons_succ] at x0 x1 x2 x3 x4 x5 x6 x7 x8 x9 x10
  go_enter Try.func13, Try.ntmps13
  go_wp2_with fail
  refine HV.out.mono ?_
  rintro e w1 ⟨rfl, hL1⟩
  have hbw := HA.out.lt
  replace HA := Lib.hid (HA.out.below hL1 hbw)
  replace HL := Lib.hid (HL.out.trans (hL1.mono (by simp)))
  clear hL1 HV hbw x0 x1 x2 x3 x4 x5 x6 x7 x8 x9 x10
  go_upto_region 3 with fail
  have c0 := cl_blk HA.out 0
  have c1 := cl_blk HA.out 1
  simp only [List.getElem?_cons_zero, List.getElem?_cons_succ] at c0 c1
  refine region_calm w1.heap.size (by kernel_rfl) (by kernel_rfl) ?_
  repeat (go_big_quiet_step ((first | (go_at_call_of 27 (Value.int .i64 nu); exact cl_call _ (Nat.le_refl _) (B2.out _)) | (go_at_call_of 27 (Value.int .i64 2); exact cl_call _ (Nat.le_refl _) (B1.out _)))))
  refine wpQuiet_nil ?_
  intro w2 hL
  replace HL := Lib.hid (HL.out.trans (hL.mono HL.out.size))
  replace HA := Lib.hid (HA.out.below hL HA.out.lt)
  clear hL c0 c1
  obtain ⟨t, ht⟩ : ∃ t, t = s1 ++ s2 := ⟨_, rfl⟩
  rw [← ht]
  have HT := Lib.hid (show t.data.toList = beN 1 2 ++ beN 2 nu by rw [ht, cat_list, S1.out, S2.out])
  have hts : t.size ≤ 16 := by rw [ht, cat_size]; omega
  clear ht
  have x0 := HA.out.cell 0
  have x1 := HA.out.cell 1
  have x2 := HA.out.cell 2
  have x3 := HA.out.cell 3
  have x4 := HA.out.cell 4
  have x5 := HA.out.cell 5
  have x6 := HA.out.cell 6
  have x7 := HA.out.cell 7
  have x8 := HA.out.cell 8
  have x9 := HA.out.cell 9
  have x10 := HA.out.cell 10
  simp only [List.getElem?_cons_zero, List.getElem?_cons_succ] at x0 x1 x2 x3 x4 x5 x6 x7 x8 x9 x10
  go_upto_region 9 with fail
  clear x0 x1 x2 x3 x4 x5 x6 x7 x8 x9 x10
  have c5 := cl_blk HA.out 5
  have c6 := cl_blk HA.out 6
  simp only [List.getElem?_cons_zero, List.getElem?_cons_succ] at c5 c6
  refine region_calm w2.heap.size (by kernel_rfl) (by kernel_rfl) ?_
  repeat (go_big_quiet_step ((first | (go_at_call_of 27 (Value.int .i64 of); exact cl_call _ (Nat.le_refl _) (B3.out _)))))
  refine wpQuiet_nil ?_
  intro w3 hL
  replace HL := Lib.hid (HL.out.trans (hL.mono HL.out.size))
  clear hL c5 c6 HA
  obtain ⟨f, hf⟩ : ∃ f, f = t ++ s3 ++ da := ⟨_, rfl⟩
  rw [← hf]
  have HB := Lib.hid (show f.data.toList = [byt 2] ++ beN 2 nu ++ (beN 2 of ++ da.data.toList) by
    rw [hf]; simp only [cat_list, HT.out, S3.out]; simp [beN])
  have hfs : f.size ≤ 100100 := by rw [hf]; simp only [cat_size]; omega
  clear hf
  obtain ⟨h16, hh16⟩ : ∃ h, h = sum16 f.data.toList := ⟨_, rfl⟩
  have R16 := Lib.hid (fun W => rSum16 f W (by omega))
  rw [← hh16] at R16
  have q0 := w16_nonneg h16
  have q1 := w16_lt h16
  have hwh : IntKind.i64.wrap (w16 h16) = w16 h16 := IntWalk.i64_in _ (by omega)
  obtain ⟨s9, S9, z9, B9⟩ := vbytes_str (w16 h16) 2 (by omega) q0 (by omega)
  have HF := Lib.hid (show (f ++ s9).data.toList = el by
    rw [cat_list, S9.out, hh16, HE.out, sumB, HB.out]; rfl)
  clear hh16
  go_wp2_with fail
  refine (R16.out _).mono ?_
  rintro e _ ⟨rfl, rfl⟩
  go_wp2_with fail
  refine (B9.out _).mono ?_
  rintro e w9 ⟨rfl, hL⟩
  replace HL := Lib.hid (HL.out.trans (hL.mono HL.out.size))
  clear hL
  go_wp2_with fail
  go_ret2
  exact ⟨by rw [← HF.out]; rfl, HL.out⟩
set_option maxHeartbeats 8000000 in
set_option maxRecDepth 100000 in
theorem vPut3 (u : Un) (gv : Value) (w : World) (hk : u.kind = 3) (hn : u.name.size ≤ 100000) (hd : u.data.size ≤ 100000) (hg : u.gaps.length ≤ 1000) (hi : intsU u) (hv : validS u = true) (hG : GapsAt w gv u.gaps) :
    Calls Try.prog 13 #[u.val gv] w fun e w' => e = .returned (.tuple #[strOf (encU u), .int .i64 0]) ∧ Below w.heap.size w w' := by
  have hs : wideU u := ⟨by omega, by omega, by omega⟩
  have HA := Lib.hid (Blk.new w (u.cells gv) 25)
  have HL := Lib.hid ((Below.refl w.heap.size w).alloc (Nat.le_refl _) (Obj.cells (u.cells gv).toArray 25))
  have HV := Lib.hid (vValid_any u gv (w.alloc (Obj.cells (u.cells gv).toArray 25)) hs (hG.below HL.out (Nat.le_refl _)))
  rw [hv] at HV
  obtain ⟨n0, n1, nv⟩ := valid_nums 3 u hk hv
  have HE := Lib.hid (show encU u = sumB (headU u ++ bodyU 3 u) by rw [encU, hk]; rfl)
  obtain ⟨el, hel⟩ : ∃ el, el = encU u := ⟨_, rfl⟩
  rw [← hel] at HE ⊢
  obtain ⟨-, -, -, -, -, -, hs0, hs1, -⟩ := hi
  obtain ⟨ga, gc, rfl, hG⟩ := hG
  have HG := Lib.hid hG
  obtain ⟨ki, nu, nm, sz, su, of, da, wy, an, me, gs⟩ := u
  simp only at hk
  subst hk
  simp only [Un.cells, Un.val, headU, bodyU, validU] at HA HL HV HE HG n0 n1 nv hn hd hg hs0 hs1 ⊢
  clear hs hv hel hG
  simp only [Bool.and_eq_true, Bool.or_eq_true, decide_eq_true_eq, beq_iff_eq] at nv
  obtain ⟨s1, S1, z1, B1⟩ := vbytes_str 3 1 (by omega) (by omega) (by omega)
  obtain ⟨s2, S2, z2, B2⟩ := vbytes_str nu 2 (by omega) n0 (by omega)
  obtain ⟨s3, S3, z3, B3⟩ := vbytes_str wy 1 (by omega) (by omega) (by omega)
  obtain ⟨s4, S4, z4, B4⟩ := vbytes_str sz 2 (by omega) (by omega) (by omega)
  obtain ⟨s5, S5, z5, B5⟩ := vbytes_str su 4 (by omega) (by omega) (by omega)
  have hws : IntKind.i64.wrap su = su := IntWalk.i64_in _ (by omega)
  clear nv
  have x0 := HA.out.cell 0
  have x1 := HA.out.cell 1
  have x2 := HA.out.cell 2
  have x3 := HA.out.cell 3
  have x4 := HA.out.cell 4
  have x5 := HA.out.cell 5
  have x6 := HA.out.cell 6
  have x7 := HA.out.cell 7
  have x8 := HA.out.cell 8
  have x9 := HA.out.cell 9
  have x10 := HA.out.cell 10
  simp only [List.getElem?_cons_zero, List.getElem?_cons_succ] at x0 x1 x2 x3 x4 x5 x6 x7 x8 x9 x10
  go_enter Try.func13, Try.ntmps13
  go_wp2_with fail
  refine HV.out.mono ?_
  rintro e w1 ⟨rfl, hL1⟩
  have hbw := HA.out.lt
  replace HA := Lib.hid (HA.out.below hL1 hbw)
  replace HL := Lib.hid (HL.out.trans (hL1.mono (by simp)))
  clear hL1 HV hbw x0 x1 x2 x3 x4 x5 x6 x7 x8 x9 x10
  go_upto_region 3 with fail
  have c0 := cl_blk HA.out 0
  have c1 := cl_blk HA.out 1
  simp only [List.getElem?_cons_zero, List.getElem?_cons_succ] at c0 c1
  refine region_calm w1.heap.size (by kernel_rfl) (by kernel_rfl) ?_
  repeat (go_big_quiet_step ((first | (go_at_call_of 27 (Value.int .i64 nu); exact cl_call _ (Nat.le_refl _) (B2.out _)) | (go_at_call_of 27 (Value.int .i64 3); exact cl_call _ (Nat.le_refl _) (B1.out _)))))
  refine wpQuiet_nil ?_
  intro w2 hL
  replace HL := Lib.hid (HL.out.trans (hL.mono HL.out.size))
  replace HA := Lib.hid (HA.out.below hL HA.out.lt)
  clear hL c0 c1
  obtain ⟨t, ht⟩ : ∃ t, t = s1 ++ s2 := ⟨_, rfl⟩
  rw [← ht]
  have HT := Lib.hid (show t.data.toList = beN 1 3 ++ beN 2 nu by rw [ht, cat_list, S1.out, S2.out])
  have hts : t.size ≤ 16 := by rw [ht, cat_size]; omega
  clear ht
  have x0 := HA.out.cell 0
  have x1 := HA.out.cell 1
  have x2 := HA.out.cell 2
  have x3 := HA.out.cell 3
  have x4 := HA.out.cell 4
  have x5 := HA.out.cell 5
  have x6 := HA.out.cell 6
  have x7 := HA.out.cell 7
  have x8 := HA.out.cell 8
  have x9 := HA.out.cell 9
  have x10 := HA.out.cell 10
  simp only [List.getElem?_cons_zero, List.getElem?_cons_succ] at x0 x1 x2 x3 x4 x5 x6 x7 x8 x9 x10
  go_upto_region 11 with fail
  clear x0 x1 x2 x3 x4 x5 x6 x7 x8 x9 x10
  have c3 := cl_blk HA.out 3
  have c4 := cl_blk HA.out 4
  have c7 := cl_blk HA.out 7
  simp only [List.getElem?_cons_zero, List.getElem?_cons_succ] at c3 c4 c7
  refine region_calm w2.heap.size (by kernel_rfl) (by kernel_rfl) ?_
  repeat (go_big_quiet_step ((first | (go_at_call_of 27 (Value.int .i64 wy); exact cl_call _ (Nat.le_refl _) (B3.out _)) | (go_at_call_of 27 (Value.int .i64 sz); exact cl_call _ (Nat.le_refl _) (B4.out _)) | (go_at_call_of 27 (Value.int .i64 su); exact cl_call _ (Nat.le_refl _) (B5.out _)))))
  refine wpQuiet_nil ?_
  intro w3 hL
  replace HL := Lib.hid (HL.out.trans (hL.mono HL.out.size))
  clear hL c3 c4 c7 HA
  obtain ⟨f, hf⟩ : ∃ f, f = t ++ s3 ++ s4 ++ s5 := ⟨_, rfl⟩
  rw [← hf]
  have HB := Lib.hid (show f.data.toList = [byt 3] ++ beN 2 nu ++ (beN 1 wy ++ beN 2 sz ++ beN 4 su) by
    rw [hf]; simp only [cat_list, HT.out, S3.out, S4.out, S5.out]; simp [beN])
  have hfs : f.size ≤ 100100 := by rw [hf]; simp only [cat_size]; omega
  clear hf
  obtain ⟨h16, hh16⟩ : ∃ h, h = sum16 f.data.toList := ⟨_, rfl⟩
  have R16 := Lib.hid (fun W => rSum16 f W (by omega))
  rw [← hh16] at R16
  have q0 := w16_nonneg h16
  have q1 := w16_lt h16
  have hwh : IntKind.i64.wrap (w16 h16) = w16 h16 := IntWalk.i64_in _ (by omega)
  obtain ⟨s9, S9, z9, B9⟩ := vbytes_str (w16 h16) 2 (by omega) q0 (by omega)
  have HF := Lib.hid (show (f ++ s9).data.toList = el by
    rw [cat_list, S9.out, hh16, HE.out, sumB, HB.out]; rfl)
  clear hh16
  go_wp2_with fail
  refine (R16.out _).mono ?_
  rintro e _ ⟨rfl, rfl⟩
  go_wp2_with fail
  refine (B9.out _).mono ?_
  rintro e w9 ⟨rfl, hL⟩
  replace HL := Lib.hid (HL.out.trans (hL.mono HL.out.size))
  clear hL
  go_wp2_with fail
  go_ret2
  exact ⟨by rw [← HF.out]; rfl, HL.out⟩
set_option maxHeartbeats 8000000 in
set_option maxRecDepth 100000 in
theorem vPut4 (u : Un) (gv : Value) (w : World) (hk : u.kind = 4) (hn : u.name.size ≤ 100000) (hd : u.data.size ≤ 100000) (hg : u.gaps.length ≤ 1000) (hi : intsU u) (hv : validS u = true) (hG : GapsAt w gv u.gaps) :
    Calls Try.prog 13 #[u.val gv] w fun e w' => e = .returned (.tuple #[strOf (encU u), .int .i64 0]) ∧ Below w.heap.size w w' := by
  have hs : wideU u := ⟨by omega, by omega, by omega⟩
  have HA := Lib.hid (Blk.new w (u.cells gv) 25)
  have HL := Lib.hid ((Below.refl w.heap.size w).alloc (Nat.le_refl _) (Obj.cells (u.cells gv).toArray 25))
  have HV := Lib.hid (vValid_any u gv (w.alloc (Obj.cells (u.cells gv).toArray 25)) hs (hG.below HL.out (Nat.le_refl _)))
  rw [hv] at HV
  obtain ⟨n0, n1, nv⟩ := valid_nums 4 u hk hv
  have HE := Lib.hid (show encU u = sumB (headU u ++ bodyU 4 u) by rw [encU, hk]; rfl)
  obtain ⟨el, hel⟩ : ∃ el, el = encU u := ⟨_, rfl⟩
  rw [← hel] at HE ⊢
  obtain ⟨-, -, -, -, -, -, hs0, hs1, -⟩ := hi
  obtain ⟨ga, gc, rfl, hG⟩ := hG
  have HG := Lib.hid hG
  obtain ⟨ki, nu, nm, sz, su, of, da, wy, an, me, gs⟩ := u
  simp only at hk
  subst hk
  simp only [Un.cells, Un.val, headU, bodyU, validU] at HA HL HV HE HG n0 n1 nv hn hd hg hs0 hs1 ⊢
  clear hs hv hel hG
  simp only [Bool.and_eq_true, Bool.or_eq_true, decide_eq_true_eq, beq_iff_eq] at nv
  obtain ⟨s1, S1, z1, B1⟩ := vbytes_str 4 1 (by omega) (by omega) (by omega)
  obtain ⟨s2, S2, z2, B2⟩ := vbytes_str nu 2 (by omega) n0 (by omega)
  obtain ⟨s3, S3, z3, B3⟩ := vbytes_str wy 1 (by omega) (by omega) (by omega)
  clear nv
  have x0 := HA.out.cell 0
  have x1 := HA.out.cell 1
  have x2 := HA.out.cell 2
  have x3 := HA.out.cell 3
  have x4 := HA.out.cell 4
  have x5 := HA.out.cell 5
  have x6 := HA.out.cell 6
  have x7 := HA.out.cell 7
  have x8 := HA.out.cell 8
  have x9 := HA.out.cell 9
  have x10 := HA.out.cell 10
  simp only [List.getElem?_cons_zero, List.getElem?_cons_succ] at x0 x1 x2 x3 x4 x5 x6 x7 x8 x9 x10
  go_enter Try.func13, Try.ntmps13
  go_wp2_with fail
  refine HV.out.mono ?_
  rintro e w1 ⟨rfl, hL1⟩
  have hbw := HA.out.lt
  replace HA := Lib.hid (HA.out.below hL1 hbw)
  replace HL := Lib.hid (HL.out.trans (hL1.mono (by simp)))
  clear hL1 HV hbw x0 x1 x2 x3 x4 x5 x6 x7 x8 x9 x10
  go_upto_region 3 with fail
  have c0 := cl_blk HA.out 0
  have c1 := cl_blk HA.out 1
  simp only [List.getElem?_cons_zero, List.getElem?_cons_succ] at c0 c1
  refine region_calm w1.heap.size (by kernel_rfl) (by kernel_rfl) ?_
  repeat (go_big_quiet_step ((first | (go_at_call_of 27 (Value.int .i64 nu); exact cl_call _ (Nat.le_refl _) (B2.out _)) | (go_at_call_of 27 (Value.int .i64 4); exact cl_call _ (Nat.le_refl _) (B1.out _)))))
  refine wpQuiet_nil ?_
  intro w2 hL
  replace HL := Lib.hid (HL.out.trans (hL.mono HL.out.size))
  replace HA := Lib.hid (HA.out.below hL HA.out.lt)
  clear hL c0 c1
  have x0 := HA.out.cell 0
  have x1 := HA.out.cell 1
  have x2 := HA.out.cell 2
  have x3 := HA.out.cell 3
  have x4 := HA.out.cell 4
  have x5 := HA.out.cell 5
  have x6 := HA.out.cell 6
  have x7 := HA.out.cell 7
  have x8 := HA.out.cell 8
  have x9 := HA.out.cell 9
  have x10 := HA.out.cell 10
  simp only [List.getElem?_cons_zero, List.getElem?_cons_succ] at x0 x1 x2 x3 x4 x5 x6 x7 x8 x9 x10
  obtain ⟨t, ht⟩ : ∃ t, t = s1 ++ s2 := ⟨_, rfl⟩
  rw [← ht]
  have HT := Lib.hid (show t.data.toList = beN 1 4 ++ beN 2 nu by rw [ht, cat_list, S1.out, S2.out])
  have hts : t.size ≤ 16 := by rw [ht, cat_size]; omega
  clear ht
  go_wp2_with fail
  refine (B3.out _).mono ?_
  rintro e w3 ⟨rfl, hL⟩
  replace HL := Lib.hid (HL.out.trans (hL.mono HL.out.size))
  clear hL x0 x1 x2 x3 x4 x5 x6 x7 x8 x9 x10 HA
  go_upto_region 23 with fail
  obtain ⟨f, hf⟩ : ∃ f, f = t ++ s3 := ⟨_, rfl⟩
  rw [← hf]
  have HB := Lib.hid (show f.data.toList = [byt 4] ++ beN 2 nu ++ beN 1 wy by
    rw [hf]; simp only [cat_list, HT.out, S3.out]; simp [beN])
  have hfs : f.size ≤ 100100 := by rw [hf]; simp only [cat_size]; omega
  clear hf
  obtain ⟨h16, hh16⟩ : ∃ h, h = sum16 f.data.toList := ⟨_, rfl⟩
  have R16 := Lib.hid (fun W => rSum16 f W (by omega))
  rw [← hh16] at R16
  have q0 := w16_nonneg h16
  have q1 := w16_lt h16
  have hwh : IntKind.i64.wrap (w16 h16) = w16 h16 := IntWalk.i64_in _ (by omega)
  obtain ⟨s9, S9, z9, B9⟩ := vbytes_str (w16 h16) 2 (by omega) q0 (by omega)
  have HF := Lib.hid (show (f ++ s9).data.toList = el by
    rw [cat_list, S9.out, hh16, HE.out, sumB, HB.out]; rfl)
  clear hh16
  go_wp2_with fail
  refine (R16.out _).mono ?_
  rintro e _ ⟨rfl, rfl⟩
  go_wp2_with fail
  refine (B9.out _).mono ?_
  rintro e w9 ⟨rfl, hL⟩
  replace HL := Lib.hid (HL.out.trans (hL.mono HL.out.size))
  clear hL
  go_wp2_with fail
  go_ret2
  exact ⟨by rw [← HF.out]; rfl, HL.out⟩
set_option maxHeartbeats 8000000 in
set_option maxRecDepth 100000 in
theorem vPut5 (u : Un) (gv : Value) (w : World) (hk : u.kind = 5) (hn : u.name.size ≤ 100000) (hd : u.data.size ≤ 100000) (hg : u.gaps.length ≤ 1000) (hi : intsU u) (hv : validS u = true) (hG : GapsAt w gv u.gaps) :
    Calls Try.prog 13 #[u.val gv] w fun e w' => e = .returned (.tuple #[strOf (encU u), .int .i64 0]) ∧ Below w.heap.size w w' := by
  have hs : wideU u := ⟨by omega, by omega, by omega⟩
  have HA := Lib.hid (Blk.new w (u.cells gv) 25)
  have HL := Lib.hid ((Below.refl w.heap.size w).alloc (Nat.le_refl _) (Obj.cells (u.cells gv).toArray 25))
  have HV := Lib.hid (vValid_any u gv (w.alloc (Obj.cells (u.cells gv).toArray 25)) hs (hG.below HL.out (Nat.le_refl _)))
  rw [hv] at HV
  obtain ⟨n0, n1, nv⟩ := valid_nums 5 u hk hv
  have HE := Lib.hid (show encU u = sumB (headU u ++ bodyU 5 u) by rw [encU, hk]; rfl)
  obtain ⟨el, hel⟩ : ∃ el, el = encU u := ⟨_, rfl⟩
  rw [← hel] at HE ⊢
  obtain ⟨-, -, -, -, -, -, hs0, hs1, -⟩ := hi
  obtain ⟨ga, gc, rfl, hG⟩ := hG
  have HG := Lib.hid hG
  obtain ⟨ki, nu, nm, sz, su, of, da, wy, an, me, gs⟩ := u
  simp only at hk
  subst hk
  simp only [Un.cells, Un.val, headU, bodyU, validU] at HA HL HV HE HG n0 n1 nv hn hd hg hs0 hs1 ⊢
  clear hs hv hel hG
  simp only [Bool.and_eq_true, Bool.or_eq_true, decide_eq_true_eq, beq_iff_eq] at nv
  obtain ⟨s1, S1, z1, B1⟩ := vbytes_str 5 1 (by omega) (by omega) (by omega)
  obtain ⟨s2, S2, z2, B2⟩ := vbytes_str nu 2 (by omega) n0 (by omega)
  have hgo : ∀ i (h : i < gs.length), 0 ≤ (gs[i]).1 ∧ (gs[i]).1 ≤ 65535 ∧ 0 ≤ (gs[i]).2 ∧ (gs[i]).2 ≤ 65535 := by
    have h := nv.1
    simp only [orderlyL, Bool.and_eq_true] at h
    exact okGaps_in gs (-1) (by omega) h.1
  have HGO := Lib.hid hgo
  clear hgo
  clear nv
  have x0 := HA.out.cell 0
  have x1 := HA.out.cell 1
  have x2 := HA.out.cell 2
  have x3 := HA.out.cell 3
  have x4 := HA.out.cell 4
  have x5 := HA.out.cell 5
  have x6 := HA.out.cell 6
  have x7 := HA.out.cell 7
  have x8 := HA.out.cell 8
  have x9 := HA.out.cell 9
  have x10 := HA.out.cell 10
  simp only [List.getElem?_cons_zero, List.getElem?_cons_succ] at x0 x1 x2 x3 x4 x5 x6 x7 x8 x9 x10
  go_enter Try.func13, Try.ntmps13
  go_wp2_with fail
  refine HV.out.mono ?_
  rintro e w1 ⟨rfl, hL1⟩
  have hbw := HA.out.lt
  replace HA := Lib.hid (HA.out.below hL1 hbw)
  replace HL := Lib.hid (HL.out.trans (hL1.mono (by simp)))
  clear hL1 HV hbw x0 x1 x2 x3 x4 x5 x6 x7 x8 x9 x10
  go_upto_region 3 with fail
  have c0 := cl_blk HA.out 0
  have c1 := cl_blk HA.out 1
  simp only [List.getElem?_cons_zero, List.getElem?_cons_succ] at c0 c1
  refine region_calm w1.heap.size (by kernel_rfl) (by kernel_rfl) ?_
  repeat (go_big_quiet_step ((first | (go_at_call_of 27 (Value.int .i64 nu); exact cl_call _ (Nat.le_refl _) (B2.out _)) | (go_at_call_of 27 (Value.int .i64 5); exact cl_call _ (Nat.le_refl _) (B1.out _)))))
  refine wpQuiet_nil ?_
  intro w2 hL
  replace HL := Lib.hid (HL.out.trans (hL.mono HL.out.size))
  replace HA := Lib.hid (HA.out.below hL HA.out.lt)
  clear hL c0 c1
  obtain ⟨t, ht⟩ : ∃ t, t = s1 ++ s2 := ⟨_, rfl⟩
  rw [← ht]
  have HT := Lib.hid (show t.data.toList = beN 1 5 ++ beN 2 nu by rw [ht, cat_list, S1.out, S2.out])
  have hts : t.size ≤ 16 := by rw [ht, cat_size]; omega
  clear ht
  cases me
  · obtain ⟨s3, S3, z3, B3⟩ := vbytes_str 0 1 (by omega) (by omega) (by omega)
    have x0 := HA.out.cell 0
    have x1 := HA.out.cell 1
    have x2 := HA.out.cell 2
    have x3 := HA.out.cell 3
    have x4 := HA.out.cell 4
    have x5 := HA.out.cell 5
    have x6 := HA.out.cell 6
    have x7 := HA.out.cell 7
    have x8 := HA.out.cell 8
    have x9 := HA.out.cell 9
    have x10 := HA.out.cell 10
    simp only [List.getElem?_cons_zero, List.getElem?_cons_succ] at x0 x1 x2 x3 x4 x5 x6 x7 x8 x9 x10
    go_wp2_with fail
    refine (B3.out _).mono ?_
    rintro e w3 ⟨rfl, hL⟩
    replace HL := Lib.hid (HL.out.trans (hL.mono HL.out.size))
    replace HA := Lib.hid (HA.out.below hL HA.out.lt)
    clear hL x0 x1 x2 x3 x4 x5 x6 x7 x8 x9 x10
    have x0 := HA.out.cell 0
    have x1 := HA.out.cell 1
    have x2 := HA.out.cell 2
    have x3 := HA.out.cell 3
    have x4 := HA.out.cell 4
    have x5 := HA.out.cell 5
    have x6 := HA.out.cell 6
    have x7 := HA.out.cell 7
    have x8 := HA.out.cell 8
    have x9 := HA.out.cell 9
    have x10 := HA.out.cell 10
    simp only [List.getElem?_cons_zero, List.getElem?_cons_succ] at x0 x1 x2 x3 x4 x5 x6 x7 x8 x9 x10
    go_wp2_with fail
    obtain ⟨f0, hf0⟩ : ∃ f, f = t ++ s3 := ⟨_, rfl⟩
    rw [← hf0]
    have HB0 := Lib.hid (show f0.data.toList = [byt 5] ++ beN 2 nu ++ [0] by
      rw [hf0]; simp only [cat_list, HT.out, S3.out]; simp [beN, byt])
    have hfs0 : f0.size ≤ 24 := by rw [hf0]; simp only [cat_size]; omega
    clear hf0
    clear x0 x1 x2 x3 x4 x5 x6 x7 x8 x9 x10
    go_loopw [4, 6] (fun bv iv wr => ∃ (i : Nat) (f : ByteArray), i ≤ gs.length ∧ iv = .int .i64 i ∧ bv = .string f ∧ f.size ≤ 24 + 4 * i ∧ Hid (f.data.toList = [byt 5] ++ beN 2 nu ++ (0 :: (gs.take i).flatMap gapB)) ∧ Below w.heap.size w wr ∧ Blk wr w.heap.size [.int .i64 5, .int .i64 nu, .string nm, .int .i64 sz, .int .u32 su, .int .i64 of, .string da, .int .i64 wy, .int .i64 an, .bool false, .slice ga gs.length gc] 25) (fun _ i _ => gs.length - (intOf i).toNat)
    case atStart => exact ⟨0, f0, by omega, rfl, rfl, by omega, Lib.hid (by rw [HB0.out]; simp), HL.out, HA.out⟩
    case round =>
      clear HL HA HB0 hfs0
      obtain ⟨i, f, hi, rfl, rfl, hfs, HB, hL, hA⟩ := hrel
      have HL := Lib.hid hL; have HA := Lib.hid hA; clear hL hA
      by_cases hlt : i < gs.length
      · obtain ⟨b, off, rfl, hb, d0, d1⟩ := HG.out i hlt
        obtain ⟨e1, e2, e3, e4⟩ := HGO.out i hlt
        have HST := Lib.hid (gaps_step gs i hlt)
        obtain ⟨x, hx⟩ : ∃ x, x = (gs[i]).1 := ⟨_, rfl⟩
        obtain ⟨y, hy⟩ : ∃ y, y = (gs[i]).2 := ⟨_, rfl⟩
        rw [← hx] at d0 e1 e2
        rw [← hy] at d1 e3 e4
        rw [← hx, ← hy] at HST
        have g0 : ∀ W : Cl wr.heap.size wr, W.val.cell? ⟨b, off + i * 2, none⟩ = some (.int .i64 x) := fun W => (W.below.cell (p := ⟨b, off + i * 2, none⟩) (Nat.lt_of_lt_of_le hb HL.out.size)).trans ((HL.out.cell (p := ⟨b, off + i * 2, none⟩) hb).trans d0)
        have g1 : ∀ W : Cl wr.heap.size wr, W.val.cell? ⟨b, off + i * 2 + 1, none⟩ = some (.int .i64 y) := fun W => (W.below.cell (p := ⟨b, off + i * 2 + 1, none⟩) (Nat.lt_of_lt_of_le hb HL.out.size)).trans ((HL.out.cell (p := ⟨b, off + i * 2 + 1, none⟩) hb).trans d1)
        obtain ⟨s4, S4, z4, B4⟩ := vbytes_str x 2 (by omega) e1 (by omega)
        obtain ⟨s5, S5, z5, B5⟩ := vbytes_str y 2 (by omega) e3 (by omega)
        have z4' : s4.size = 2 := by rw [size_list, S4.out, beN_length]
        have z5' : s5.size = 2 := by rw [size_list, S5.out, beN_length]
        have Z4 := Lib.hid z4'; have Z5 := Lib.hid z5'
        have hkl : (i : Int) < (gs.length : Int) := by omega
        have hk0 : (0 : Int) ≤ (i : Int) := by omega
        have hfb : f.size ≤ 5000 := by omega
        clear d0 d1 hx hy e1 e2 e3 e4 z4' z5'
        have x10 := HA.out.cell 10
        simp only [List.getElem?_cons_zero, List.getElem?_cons_succ] at x10
        go_upto_region 22 with fail
        clear x10
        have c10 := cl_blk HA.out 10
        simp only [List.getElem?_cons_zero, List.getElem?_cons_succ] at c10
        refine region_calm wr.heap.size (by kernel_rfl) (by kernel_rfl) ?_
        repeat (go_big_quiet_step ((first | (go_at_call_of 27 (Value.int .i64 x); exact cl_call _ (Nat.le_refl _) (B4.out _)) | (go_at_call_of 27 (Value.int .i64 y); exact cl_call _ (Nat.le_refl _) (B5.out _)))))
        refine wpQuiet_nil ?_
        intro w6 hL
        replace HL := Lib.hid (HL.out.trans (hL.mono HL.out.size))
        replace HA := Lib.hid (HA.out.below hL HA.out.lt)
        clear hL c10 g0 g1
        go_wp2_with fail
        go_roundw
        case rel =>
          refine ⟨i + 1, f ++ s4 ++ s5, by omega, by go_num, rfl, ?_, Lib.hid ?_, HL.out, HA.out⟩
          · have h1 := Z4.out; have h2 := Z5.out; simp only [cat_size]; omega
          · rw [HST.out]; simp only [cat_list, HB.out, S4.out, S5.out]; simp
        case measure => simp [intOf]; omega
      · obtain rfl : i = gs.length := by omega
        have HB2 := HB.out
        rw [List.take_length] at HB2
        replace HB := Lib.hid HB2
        have hfb : f.size ≤ 5000 := by omega
        have x10 := HA.out.cell 10
        simp only [List.getElem?_cons_zero, List.getElem?_cons_succ] at x10
        clear HB2
        obtain ⟨h16, hh16⟩ : ∃ h, h = sum16 f.data.toList := ⟨_, rfl⟩
        have R16 := Lib.hid (fun W => rSum16 f W (by omega))
        rw [← hh16] at R16
        have q0 := w16_nonneg h16
        have q1 := w16_lt h16
        have hwh : IntKind.i64.wrap (w16 h16) = w16 h16 := IntWalk.i64_in _ (by omega)
        obtain ⟨s9, S9, z9, B9⟩ := vbytes_str (w16 h16) 2 (by omega) q0 (by omega)
        have HF := Lib.hid (show (f ++ s9).data.toList = el by
          rw [cat_list, S9.out, hh16, HE.out, sumB, HB.out]; rfl)
        clear hh16
        go_wp2_with fail
        refine (R16.out _).mono ?_
        rintro e _ ⟨rfl, rfl⟩
        go_wp2_with fail
        refine (B9.out _).mono ?_
        rintro e w9 ⟨rfl, hL⟩
        replace HL := Lib.hid (HL.out.trans (hL.mono HL.out.size))
        clear hL
        go_wp2_with fail
        go_ret2
        exact ⟨by rw [← HF.out]; rfl, HL.out⟩
  · obtain ⟨s3, S3, z3, B3⟩ := vbytes_str 1 1 (by omega) (by omega) (by omega)
    have x0 := HA.out.cell 0
    have x1 := HA.out.cell 1
    have x2 := HA.out.cell 2
    have x3 := HA.out.cell 3
    have x4 := HA.out.cell 4
    have x5 := HA.out.cell 5
    have x6 := HA.out.cell 6
    have x7 := HA.out.cell 7
    have x8 := HA.out.cell 8
    have x9 := HA.out.cell 9
    have x10 := HA.out.cell 10
    simp only [List.getElem?_cons_zero, List.getElem?_cons_succ] at x0 x1 x2 x3 x4 x5 x6 x7 x8 x9 x10
    go_wp2_with fail
    refine (B3.out _).mono ?_
    rintro e w3 ⟨rfl, hL⟩
    replace HL := Lib.hid (HL.out.trans (hL.mono HL.out.size))
    replace HA := Lib.hid (HA.out.below hL HA.out.lt)
    clear hL x0 x1 x2 x3 x4 x5 x6 x7 x8 x9 x10
    have x0 := HA.out.cell 0
    have x1 := HA.out.cell 1
    have x2 := HA.out.cell 2
    have x3 := HA.out.cell 3
    have x4 := HA.out.cell 4
    have x5 := HA.out.cell 5
    have x6 := HA.out.cell 6
    have x7 := HA.out.cell 7
    have x8 := HA.out.cell 8
    have x9 := HA.out.cell 9
    have x10 := HA.out.cell 10
    simp only [List.getElem?_cons_zero, List.getElem?_cons_succ] at x0 x1 x2 x3 x4 x5 x6 x7 x8 x9 x10
    go_wp2_with fail
    obtain ⟨f0, hf0⟩ : ∃ f, f = t ++ s3 := ⟨_, rfl⟩
    rw [← hf0]
    have HB0 := Lib.hid (show f0.data.toList = [byt 5] ++ beN 2 nu ++ [1] by
      rw [hf0]; simp only [cat_list, HT.out, S3.out]; simp [beN, byt])
    have hfs0 : f0.size ≤ 24 := by rw [hf0]; simp only [cat_size]; omega
    clear hf0
    clear x0 x1 x2 x3 x4 x5 x6 x7 x8 x9 x10
    go_loopw [4, 6] (fun bv iv wr => ∃ (i : Nat) (f : ByteArray), i ≤ gs.length ∧ iv = .int .i64 i ∧ bv = .string f ∧ f.size ≤ 24 + 4 * i ∧ Hid (f.data.toList = [byt 5] ++ beN 2 nu ++ (1 :: (gs.take i).flatMap gapB)) ∧ Below w.heap.size w wr ∧ Blk wr w.heap.size [.int .i64 5, .int .i64 nu, .string nm, .int .i64 sz, .int .u32 su, .int .i64 of, .string da, .int .i64 wy, .int .i64 an, .bool true, .slice ga gs.length gc] 25) (fun _ i _ => gs.length - (intOf i).toNat)
    case atStart => exact ⟨0, f0, by omega, rfl, rfl, by omega, Lib.hid (by rw [HB0.out]; simp), HL.out, HA.out⟩
    case round =>
      clear HL HA HB0 hfs0
      obtain ⟨i, f, hi, rfl, rfl, hfs, HB, hL, hA⟩ := hrel
      have HL := Lib.hid hL; have HA := Lib.hid hA; clear hL hA
      by_cases hlt : i < gs.length
      · obtain ⟨b, off, rfl, hb, d0, d1⟩ := HG.out i hlt
        obtain ⟨e1, e2, e3, e4⟩ := HGO.out i hlt
        have HST := Lib.hid (gaps_step gs i hlt)
        obtain ⟨x, hx⟩ : ∃ x, x = (gs[i]).1 := ⟨_, rfl⟩
        obtain ⟨y, hy⟩ : ∃ y, y = (gs[i]).2 := ⟨_, rfl⟩
        rw [← hx] at d0 e1 e2
        rw [← hy] at d1 e3 e4
        rw [← hx, ← hy] at HST
        have g0 : ∀ W : Cl wr.heap.size wr, W.val.cell? ⟨b, off + i * 2, none⟩ = some (.int .i64 x) := fun W => (W.below.cell (p := ⟨b, off + i * 2, none⟩) (Nat.lt_of_lt_of_le hb HL.out.size)).trans ((HL.out.cell (p := ⟨b, off + i * 2, none⟩) hb).trans d0)
        have g1 : ∀ W : Cl wr.heap.size wr, W.val.cell? ⟨b, off + i * 2 + 1, none⟩ = some (.int .i64 y) := fun W => (W.below.cell (p := ⟨b, off + i * 2 + 1, none⟩) (Nat.lt_of_lt_of_le hb HL.out.size)).trans ((HL.out.cell (p := ⟨b, off + i * 2 + 1, none⟩) hb).trans d1)
        obtain ⟨s4, S4, z4, B4⟩ := vbytes_str x 2 (by omega) e1 (by omega)
        obtain ⟨s5, S5, z5, B5⟩ := vbytes_str y 2 (by omega) e3 (by omega)
        have z4' : s4.size = 2 := by rw [size_list, S4.out, beN_length]
        have z5' : s5.size = 2 := by rw [size_list, S5.out, beN_length]
        have Z4 := Lib.hid z4'; have Z5 := Lib.hid z5'
        have hkl : (i : Int) < (gs.length : Int) := by omega
        have hk0 : (0 : Int) ≤ (i : Int) := by omega
        have hfb : f.size ≤ 5000 := by omega
        clear d0 d1 hx hy e1 e2 e3 e4 z4' z5'
        have x10 := HA.out.cell 10
        simp only [List.getElem?_cons_zero, List.getElem?_cons_succ] at x10
        go_upto_region 22 with fail
        clear x10
        have c10 := cl_blk HA.out 10
        simp only [List.getElem?_cons_zero, List.getElem?_cons_succ] at c10
        refine region_calm wr.heap.size (by kernel_rfl) (by kernel_rfl) ?_
        repeat (go_big_quiet_step ((first | (go_at_call_of 27 (Value.int .i64 x); exact cl_call _ (Nat.le_refl _) (B4.out _)) | (go_at_call_of 27 (Value.int .i64 y); exact cl_call _ (Nat.le_refl _) (B5.out _)))))
        refine wpQuiet_nil ?_
        intro w6 hL
        replace HL := Lib.hid (HL.out.trans (hL.mono HL.out.size))
        replace HA := Lib.hid (HA.out.below hL HA.out.lt)
        clear hL c10 g0 g1
        go_wp2_with fail
        go_roundw
        case rel =>
          refine ⟨i + 1, f ++ s4 ++ s5, by omega, by go_num, rfl, ?_, Lib.hid ?_, HL.out, HA.out⟩
          · have h1 := Z4.out; have h2 := Z5.out; simp only [cat_size]; omega
          · rw [HST.out]; simp only [cat_list, HB.out, S4.out, S5.out]; simp
        case measure => simp [intOf]; omega
      · obtain rfl : i = gs.length := by omega
        have HB2 := HB.out
        rw [List.take_length] at HB2
        replace HB := Lib.hid HB2
        have hfb : f.size ≤ 5000 := by omega
        have x10 := HA.out.cell 10
        simp only [List.getElem?_cons_zero, List.getElem?_cons_succ] at x10
        clear HB2
        obtain ⟨h16, hh16⟩ : ∃ h, h = sum16 f.data.toList := ⟨_, rfl⟩
        have R16 := Lib.hid (fun W => rSum16 f W (by omega))
        rw [← hh16] at R16
        have q0 := w16_nonneg h16
        have q1 := w16_lt h16
        have hwh : IntKind.i64.wrap (w16 h16) = w16 h16 := IntWalk.i64_in _ (by omega)
        obtain ⟨s9, S9, z9, B9⟩ := vbytes_str (w16 h16) 2 (by omega) q0 (by omega)
        have HF := Lib.hid (show (f ++ s9).data.toList = el by
          rw [cat_list, S9.out, hh16, HE.out, sumB, HB.out]; rfl)
        clear hh16
        go_wp2_with fail
        refine (R16.out _).mono ?_
        rintro e _ ⟨rfl, rfl⟩
        go_wp2_with fail
        refine (B9.out _).mono ?_
        rintro e w9 ⟨rfl, hL⟩
        replace HL := Lib.hid (HL.out.trans (hL.mono HL.out.size))
        clear hL
        go_wp2_with fail
        go_ret2
        exact ⟨by rw [← HF.out]; rfl, HL.out⟩
set_option maxHeartbeats 8000000 in
set_option maxRecDepth 100000 in
theorem vPut6 (u : Un) (gv : Value) (w : World) (hk : u.kind = 6) (hn : u.name.size ≤ 100000) (hd : u.data.size ≤ 100000) (hg : u.gaps.length ≤ 1000) (hi : intsU u) (hv : validS u = true) (hG : GapsAt w gv u.gaps) :
    Calls Try.prog 13 #[u.val gv] w fun e w' => e = .returned (.tuple #[strOf (encU u), .int .i64 0]) ∧ Below w.heap.size w w' := by
  have hs : wideU u := ⟨by omega, by omega, by omega⟩
  have HA := Lib.hid (Blk.new w (u.cells gv) 25)
  have HL := Lib.hid ((Below.refl w.heap.size w).alloc (Nat.le_refl _) (Obj.cells (u.cells gv).toArray 25))
  have HV := Lib.hid (vValid_any u gv (w.alloc (Obj.cells (u.cells gv).toArray 25)) hs (hG.below HL.out (Nat.le_refl _)))
  rw [hv] at HV
  obtain ⟨n0, n1, nv⟩ := valid_nums 6 u hk hv
  have HE := Lib.hid (show encU u = sumB (headU u ++ bodyU 6 u) by rw [encU, hk]; rfl)
  obtain ⟨el, hel⟩ : ∃ el, el = encU u := ⟨_, rfl⟩
  rw [← hel] at HE ⊢
  obtain ⟨-, -, -, -, -, -, hs0, hs1, -⟩ := hi
  obtain ⟨ga, gc, rfl, hG⟩ := hG
  have HG := Lib.hid hG
  obtain ⟨ki, nu, nm, sz, su, of, da, wy, an, me, gs⟩ := u
  simp only at hk
  subst hk
  simp only [Un.cells, Un.val, headU, bodyU, validU] at HA HL HV HE HG n0 n1 nv hn hd hg hs0 hs1 ⊢
  clear hs hv hel hG
  simp only [Bool.and_eq_true, Bool.or_eq_true, decide_eq_true_eq, beq_iff_eq] at nv
  obtain ⟨s1, S1, z1, B1⟩ := vbytes_str 6 1 (by omega) (by omega) (by omega)
  obtain ⟨s2, S2, z2, B2⟩ := vbytes_str nu 2 (by omega) n0 (by omega)
  obtain ⟨s3, S3, z3, B3⟩ := vbytes_str an 1 (by omega) (by omega) (by omega)
  clear nv
  have x0 := HA.out.cell 0
  have x1 := HA.out.cell 1
  have x2 := HA.out.cell 2
  have x3 := HA.out.cell 3
  have x4 := HA.out.cell 4
  have x5 := HA.out.cell 5
  have x6 := HA.out.cell 6
  have x7 := HA.out.cell 7
  have x8 := HA.out.cell 8
  have x9 := HA.out.cell 9
  have x10 := HA.out.cell 10
  simp only [List.getElem?_cons_zero, List.getElem?_cons_succ] at x0 x1 x2 x3 x4 x5 x6 x7 x8 x9 x10
  go_enter Try.func13, Try.ntmps13
  go_wp2_with fail
  refine HV.out.mono ?_
  rintro e w1 ⟨rfl, hL1⟩
  have hbw := HA.out.lt
  replace HA := Lib.hid (HA.out.below hL1 hbw)
  replace HL := Lib.hid (HL.out.trans (hL1.mono (by simp)))
  clear hL1 HV hbw x0 x1 x2 x3 x4 x5 x6 x7 x8 x9 x10
  go_upto_region 3 with fail
  have c0 := cl_blk HA.out 0
  have c1 := cl_blk HA.out 1
  simp only [List.getElem?_cons_zero, List.getElem?_cons_succ] at c0 c1
  refine region_calm w1.heap.size (by kernel_rfl) (by kernel_rfl) ?_
  repeat (go_big_quiet_step ((first | (go_at_call_of 27 (Value.int .i64 nu); exact cl_call _ (Nat.le_refl _) (B2.out _)) | (go_at_call_of 27 (Value.int .i64 6); exact cl_call _ (Nat.le_refl _) (B1.out _)))))
  refine wpQuiet_nil ?_
  intro w2 hL
  replace HL := Lib.hid (HL.out.trans (hL.mono HL.out.size))
  replace HA := Lib.hid (HA.out.below hL HA.out.lt)
  clear hL c0 c1
  have x0 := HA.out.cell 0
  have x1 := HA.out.cell 1
  have x2 := HA.out.cell 2
  have x3 := HA.out.cell 3
  have x4 := HA.out.cell 4
  have x5 := HA.out.cell 5
  have x6 := HA.out.cell 6
  have x7 := HA.out.cell 7
  have x8 := HA.out.cell 8
  have x9 := HA.out.cell 9
  have x10 := HA.out.cell 10
  simp only [List.getElem?_cons_zero, List.getElem?_cons_succ] at x0 x1 x2 x3 x4 x5 x6 x7 x8 x9 x10
  obtain ⟨t, ht⟩ : ∃ t, t = s1 ++ s2 := ⟨_, rfl⟩
  rw [← ht]
  have HT := Lib.hid (show t.data.toList = beN 1 6 ++ beN 2 nu by rw [ht, cat_list, S1.out, S2.out])
  have hts : t.size ≤ 16 := by rw [ht, cat_size]; omega
  clear ht
  go_wp2_with fail
  refine (B3.out _).mono ?_
  rintro e w3 ⟨rfl, hL⟩
  replace HL := Lib.hid (HL.out.trans (hL.mono HL.out.size))
  clear hL x0 x1 x2 x3 x4 x5 x6 x7 x8 x9 x10 HA
  go_upto_region 23 with fail
  obtain ⟨f, hf⟩ : ∃ f, f = t ++ s3 := ⟨_, rfl⟩
  rw [← hf]
  have HB := Lib.hid (show f.data.toList = [byt 6] ++ beN 2 nu ++ beN 1 an by
    rw [hf]; simp only [cat_list, HT.out, S3.out]; simp [beN])
  have hfs : f.size ≤ 100100 := by rw [hf]; simp only [cat_size]; omega
  clear hf
  obtain ⟨h16, hh16⟩ : ∃ h, h = sum16 f.data.toList := ⟨_, rfl⟩
  have R16 := Lib.hid (fun W => rSum16 f W (by omega))
  rw [← hh16] at R16
  have q0 := w16_nonneg h16
  have q1 := w16_lt h16
  have hwh : IntKind.i64.wrap (w16 h16) = w16 h16 := IntWalk.i64_in _ (by omega)
  obtain ⟨s9, S9, z9, B9⟩ := vbytes_str (w16 h16) 2 (by omega) q0 (by omega)
  have HF := Lib.hid (show (f ++ s9).data.toList = el by
    rw [cat_list, S9.out, hh16, HE.out, sumB, HB.out]; rfl)
  clear hh16
  go_wp2_with fail
  refine (R16.out _).mono ?_
  rintro e _ ⟨rfl, rfl⟩
  go_wp2_with fail
  refine (B9.out _).mono ?_
  rintro e w9 ⟨rfl, hL⟩
  replace HL := Lib.hid (HL.out.trans (hL.mono HL.out.size))
  clear hL
  go_wp2_with fail
  go_ret2
  exact ⟨by rw [← HF.out]; rfl, HL.out⟩
theorem vPut_any (u : Un) (gv : Value) (w : World) (hn : u.name.size ≤ 100000) (hd : u.data.size ≤ 100000) (hg : u.gaps.length ≤ 1000) (hi : intsU u) (hG : GapsAt w gv u.gaps) :
    Calls Try.prog 13 #[u.val gv] w fun e w' => e = .returned (.tuple #[strOf (putS u).1, .int .i64 (putS u).2]) ∧ Below w.heap.size w w' := by
  have hs : wideU u := ⟨by omega, by omega, by omega⟩
  cases hv : validS u with
  | false => exact (vPut_out u gv w hs hv hG).mono fun e w' h => ⟨by rw [h.1, putS, if_neg (by rw [hv]; exact Bool.false_ne_true)]; rfl, h.2⟩
  | true =>
    have hv' := hv
    simp only [validS, Bool.and_eq_true, decide_eq_true_eq] at hv'
    obtain ⟨⟨⟨h1, -⟩, -⟩, -⟩ := hv'
    rw [putS, if_pos hv]
    rcases (by omega : u.kind = 1 ∨ u.kind = 2 ∨ u.kind = 3 ∨ u.kind = 4 ∨ u.kind = 5 ∨ u.kind = 6) with h | h | h | h | h | h
    · exact vPut1 u gv w h hn hd hg hi hv hG
    · exact vPut2 u gv w h hn hd hg hi hv hG
    · exact vPut3 u gv w h hn hd hg hi hv hG
    · exact vPut4 u gv w h hn hd hg hi hv hG
    · exact vPut5 u gv w h hn hd hg hi hv hG
    · exact vPut6 u gv w h hn hd hg hi hv hG
end Go.Proofs.Ytkpgenmlpkfokaa
