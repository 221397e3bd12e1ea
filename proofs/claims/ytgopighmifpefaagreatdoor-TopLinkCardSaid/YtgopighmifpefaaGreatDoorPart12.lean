/- What is proved here: a part of the proof of TopLink (texts Ct8 Ct8f Ct9 Ct10 A1 A2). No condition. -/
import Derived.Deep.RegionWith
import Derived.Lib.BufferWrite
import Derived.Lib.UnsafeStr
import Derived.Laws.MakeOwn
import Derived.Test.YtgopighmifpefaaGreatDoorPart03
import Derived.Test.YtgopighmifpefaaGreatDoorPart06
import Derived.Test.YtgopighmifpefaaGreatDoorPart11
set_option linter.unusedVariables false
set_option linter.unusedSimpArgs false
namespace Go.Proofs.YtgopighmifpefaaGreatDoor
section
open Go.RowKit
set_option maxHeartbeats 8000000 in
set_option maxRecDepth 100000 in
theorem begin1_fail (P : Nat) (dv kv fv : Value) (s : Ps) (seven : List UInt8) (wr : Int) (b : UInt8) (w : World) (hl : s.block.length = 7) (hd : s.data.length ≤ 100000) (h7 : seven.length ≤ 7) (hG : Gl w) (hown : ∀ i ∈ P :: (dv.ownBlock.toList ++ kv.ownBlock.toList ++ fv.ownBlock.toList), 1 < i)
    (hV : chkV (s.block ++ [b]) = .tuple #[.string ⟨seven.toArray⟩, .int .i64 wr, .int .i64 6]) (hn : 0 < (s.data ++ seven).length) (hfl0 : s.found.length ≤ 1000000) (h : PM w P dv kv fv s) :
    Calls Tryz.prog 87 #[.pointer (some ⟨P, 0, none⟩), .int .u8 (b.toNat : Int)] w fun e w' => e = .returned (.tuple #[]) ∧ ∃ dv' kv' fv', PTo w w' P dv kv fv dv' kv' fv' ∧ PM w' P dv' kv' fv' (searchS { s with block := [], data := s.data ++ seven, found := s.found ++ [⟨(s.data ++ seven).toArray⟩] }) := by
  have HFL := Lib.hid hfl0; clear hfl0
  have HOWN := Lib.hid hown; have HV := Lib.hid hV; have HSZ := Lib.hid (And.intro hd h7); have HL7 := Lib.hid hl
  have HNX := Lib.hid hn
  clear hown hV hd h7 hl hn
  obtain ⟨dv0, hdv⟩ : ∃ dv0, dv0 = dv := ⟨_, rfl⟩
  rw [← hdv] at HOWN ⊢
  have HDV := Lib.hid hdv
  clear hdv
  have HP := Lib.hid h
  obtain ⟨ka, kc, rfl⟩ := brow_form h.block
  have HB := Lib.hid h.blk
  have HR := Lib.hid h.block
  have c0 := HB.out.cell 0
  have c1 := HB.out.cell 1
  have c2 := HB.out.cell 2
  have c3 := HB.out.cell 3
  have c4 := HB.out.cell 4
  have c5 := HB.out.cell 5
  have c6 := HB.out.cell 6
  simp only [psCells, List.getElem?_cons_zero, List.getElem?_cons_succ] at c0 c1 c2 c3 c4 c5 c6
  have f0 := HB.out.free 0
  have f1 := HB.out.free 1
  have f2 := HB.out.free 2
  have f3 := HB.out.free 3
  have f4 := HB.out.free 4
  have f5 := HB.out.free 5
  have f6 := HB.out.free 6
  have HGG := Lib.hid hG
  clear hG
  clear h
  go_enter Tryz.func87, Tryz.ntmps87
  go_wp2_with (at_builtin; refine append_byte_q _ rfl _ _ rfl _ _ rfl (q_alloc HR.out _) w.heap.size b rfl ?c1 ?c2 ?_)
  case c1 => exact (Blk.new w [vb b] 5).cell 0
  case c2 => have := HL7.out; omega
  intro v1 w1 hR1 hK1 hm1
  obtain ⟨va, vc, rfl⟩ := brow_form hR1
  obtain ⟨m, hm⟩ : ∃ m, m = (s.block ++ [b]).length := ⟨_, rfl⟩
  have HMM := Lib.hid hm
  rw [← hm] at hR1 hm1 ⊢
  clear hm
  obtain ⟨hB1, hM1, hT1⟩ := HP.out.appB (((Keep.refl _ w).alloc _).trans hK1) (by intro k hk; rcases hm1 with e | e; exact .inl (e ▸ hk); rw [e] at hk; injection hk with hk; subst hk; right; simp) hR1
  have HM1 := Lib.hid hM1; have HT1 := Lib.hid hT1
  clear hM1 hT1 hK1 hm1 hR1 c0 c1 c2 c3 c4 c5 c6 f0 f1 f2 f3 f4 f5 f6 HB HR HP
  have HB1 := Lib.hid hB1; clear hB1
  have c4 := HB1.out.cell 4; have f4 := HB1.out.free 4
  simp only [psCells, List.getElem?_cons_zero, List.getElem?_cons_succ] at c4
  go_upto_region 1 with fail
  clear c4 f4 HB1
  refine gen_world (fun W => PM W P dv (.slice va m vc) fv { s with block := s.block ++ [b] } ∧ PTo w W P dv (.slice ka s.block.length kc) fv dv (.slice va m vc) fv) ⟨HM1.out, HT1.out⟩ ?_
  clear HM1 HT1
  rintro w2 ⟨hM, hT⟩
  have HM := Lib.hid hM; have HT := Lib.hid hT; clear hM hT
  have hll : m = 8 := by have := HL7.out; rw [HMM.out]; simp; omega
  have q1 : ¬ (m : Int) < 8 := by omega
  have hG2 : Gl w2 := HGG.out.keep HT.out.keep (fun i hi => HOWN.out i (by rw [HDV.out]; exact hi))
  obtain ⟨B, hBB⟩ : ∃ B : ByteArray, B = ⟨(s.block ++ [b]).toArray⟩ := ⟨_, rfl⟩
  have hB8 : B.size = 8 := by rw [hBB, ← hll, HMM.out]; exact List.size_toArray
  have hBL : B.data.toList = s.block ++ [b] := by rw [hBB]
  have hcv := brow_string HM.out.block
  rw [← hBB] at hcv
  have HCK := Lib.hid (Check_any B w2 hB8 hG2)
  rw [hBL, HV.out] at HCK
  have c4 := HM.out.blk.cell 4
  simp only [psCells, List.getElem?_cons_zero, List.getElem?_cons_succ] at c4
  clear hBB hBL hll HGG HV hG2 hB8
  have hcv2 : (convert 97 9 (.slice va m vc)).run Tryz.prog w2 = .ok (.string B) w2 := hcv
  clear hcv
  go_wp2_with fail
  refine HCK.out.mono ?_
  rintro e w3 ⟨rfl, hL3⟩
  have HM3 := Lib.hid (HM.out.below hL3)
  have HT3 := Lib.hid (by rw [HDV.out]; exact HT.out.below hL3 : PTo w w3 P dv0 (.slice ka s.block.length kc) fv dv (.slice va m vc) fv)
  clear HM HT HCK hL3 c4 hcv2
  obtain ⟨da, dc, rfl⟩ := brow_form HM3.out.data
  have c3 := HM3.out.blk.cell 3; have f3 := HM3.out.blk.free 3
  simp only [psCells, List.getElem?_cons_zero, List.getElem?_cons_succ] at c3
  have HR3 := Lib.hid HM3.out.data
  go_wp2_with (at_builtin; refine append_string_q _ rfl _ _ rfl _ _ rfl HR3.out ⟨seven.toArray⟩ rfl ?c1 ?_)
  case c1 => obtain ⟨h4, h5⟩ := HSZ.out; show s.data.length + seven.toArray.size ≤ 1000000; rw [List.size_toArray]; omega
  intro v4 w4 hR4 hK4 hm4
  obtain ⟨hB4, hM4, hT4⟩ := HM3.out.appD hK4 (by intro k hk; rcases hm4 with e | e; exact .inl (e ▸ hk); rw [e] at hk; injection hk with hk; subst hk; right; simp) hR4
  obtain ⟨ga, gc, rfl⟩ := brow_form hR4
  obtain ⟨n, hn⟩ : ∃ n, n = (s.data ++ seven).length := ⟨_, rfl⟩
  have HN := Lib.hid hn
  rw [← hn] at hM4 hT4 ⊢
  clear hn hR4 hK4 hm4 HR3 c3 f3
  have HM4 := Lib.hid hM4; have HT4 := Lib.hid (HT3.out.trans hT4)
  have c3 := hB4.cell 3; have f3 := hB4.free 3
  simp only [psCells, List.getElem?_cons_zero, List.getElem?_cons_succ] at c3
  clear HM3 HT3 hM4 hT4 hB4
  go_upto_region 4 with fail
  clear c3 f3
  refine gen_world (fun W => PM W P (.slice ga n gc) (.slice va m vc) fv { s with block := s.block ++ [b], data := s.data ++ seven } ∧ PTo w W P dv0 (.slice ka s.block.length kc) fv (.slice ga n gc) (.slice va m vc) fv) ⟨HM4.out, HT4.out⟩ ?_
  clear HM4 HT4
  rintro w5 ⟨hM, hT⟩
  have HM := Lib.hid hM; have HT := Lib.hid hT; clear hM hT
  obtain ⟨u', hu, hRu, hou⟩ := brow_upto0 HM.out.block
  obtain ⟨ua, uc, rfl⟩ := brow_form hRu
  simp only [List.length_nil] at hu hRu hou
  have c4 := HM.out.blk.cell 4; have f4 := HM.out.blk.free 4
  simp only [psCells, List.getElem?_cons_zero, List.getElem?_cons_succ] at c4
  have hmu : Mv w5 (.slice va m vc) (.slice ua 0 uc) := fun k hk => .inl (hou ▸ hk)
  have hfar := HM.out.far.2.1
  have hK5 : Keep (P :: (Value.slice va m vc).ownBlock.toList) w5 (w5.setCell ⟨P, 4, none⟩ (.slice ua 0 uc)) := (Keep.refl _ _).setCell (.inl (by simp)) _
  have HM5 := Lib.hid (HM.out.setB hK5 hmu (q_set hRu (mv_far hfar hmu HM.out.blk.lt) _) (HM.out.blk.set 4 _))
  have HT5 := Lib.hid (HT.out.trans ⟨hK5.mono (fun i hi => own_k hi), Mv.rfl, hmu, Mv.rfl⟩)
  clear HM HT hRu hou hmu hfar hK5
  go_upto_region 5 with fail
  clear c4 f4 hu
  refine gen_world (fun W => PM W P (.slice ga n gc) (.slice ua 0 uc) fv { s with block := [], data := s.data ++ seven } ∧ PTo w W P dv0 (.slice ka s.block.length kc) fv (.slice ga n gc) (.slice ua 0 uc) fv) ⟨HM5.out, HT5.out⟩ ?_
  clear HM5 HT5
  rintro w6 ⟨hM, hT⟩
  have HM := Lib.hid hM; have HT := Lib.hid hT; clear hM hT
  have c3 := HM.out.blk.cell 3
  simp only [psCells, List.getElem?_cons_zero, List.getElem?_cons_succ] at c3
  have q4 : (0 : Int) < (n : Int) := by have := HNX.out; rw [HN.out]; omega
  go_upto_region 7 with fail
  obtain ⟨D, hD⟩ : ∃ D : ByteArray, D = ⟨(s.data ++ seven).toArray⟩ := ⟨_, rfl⟩
  have hQF := HM.out.found
  obtain ⟨fa, fc, hfe⟩ := qform hQF
  subst hfe
  have hfl : s.found.length ≤ 1000000 := HFL.out
  obtain ⟨N, hNN⟩ : ∃ N, N = s.found.length := ⟨_, rfl⟩
  have HNN := Lib.hid hNN
  have hN1 : N ≤ 1000000 := by rw [hNN]; exact hfl
  have hQF2 : QRow w6 0 9 1 (.slice fa N fc) N (stRow s.found) := by rw [hNN]; exact hQF
  have HQF := Lib.hid hQF2
  clear hQF hQF2 hfl
  obtain ⟨a1, a2, a3, a4, a5, a6⟩ := HM.out.far
  rw [show ({ s with block := [], data := s.data ++ seven } : Ps).found.length = N from hNN.symm] at a3 a5 a6
  have hBW := HM.out.blk; have hDW := HM.out.data
  simp only at hBW hDW
  rw [show ({ s with block := [], data := s.data ++ seven } : Ps).found.length = N from hNN.symm] at hBW
  have hMW := HM.out; have hTW := HT.out
  rw [show ({ s with block := [], data := s.data ++ seven } : Ps).found.length = N from hNN.symm] at hMW
  have hTW2 : PTo w w6 P dv0 (.slice ka s.block.length kc) (.slice fa N fc) (.slice ga n gc) (.slice ua 0 uc) (.slice fa N fc) := by rw [hNN]; exact hTW
  have HT2 := Lib.hid hTW2; have HM2 := Lib.hid hMW
  clear HT HM hTW hTW2 hMW hNN c3
  have x0 : ∀ W', Keep (Value.slice fa N fc).ownBlock.toList w6 W' → W'.cell? ⟨P, 6, none⟩ = some (.slice fa N fc) ∧ W'.cell? ⟨P, 3, none⟩ = some (.slice ga n gc) ∧ (convert 97 9 (.slice ga n gc)).run Tryz.prog W' = .ok (.string D) W' := fun W' k => by
    have hB' := hBW.keep k (far_own a3)
    have c6 := hB'.cell 6; have c3 := hB'.cell 3
    simp only [psCells, List.getElem?_cons_zero, List.getElem?_cons_succ] at c6 c3
    have hD' := brow_string (q_keep hDW k (fun g hg hm => by rw [Option.mem_toList] at hm; exact a5 g hg hm))
    rw [← hD] at hD'
    exact ⟨c6, c3, hD'⟩
  have HDD := Lib.hid hD; clear hD
  clear a1 a2 a4 a6
  obtain ⟨i0, hi0, hz0, hz1, hz2⟩ := info_parts info_s1
  refine region_end (fun W' => Keep (Value.slice fa N fc).ownBlock.toList w6 W') 14 (by kernel_rfl) ((Keep.refl _ _).drew) (fun hInv hHeld => ?_)
  have hL0 : Below w6.heap.size w6 w6.drew := (Below.refl _ _).drew
  refine WpEnd.take (i := 0) (some 66) (v := ?_) rfl rfl (by kernel_rfl) (by kernel_rfl) (by kernel_rfl) (fun _ _ _ h => h) (by kernel_rfl) hInv (by assumption) (by rfl) ?_ (fun hInv2 => ?_)
  rotate_left
  · (intro w hSw; (try dsimp only at hSw); obtain ⟨y1, y2, y3⟩ := x0 _ hSw; go_simp; (try with_reducible rfl))
  clear hInv; have hInv := hInv2; clear hInv2
  simp only [Act.put, List.setIfInBounds_toArray, List.set_cons_zero, List.set_cons_succ]
  refine WpEnd.take (i := 1) (some 67) (v := ?_) rfl rfl (by kernel_rfl) (by kernel_rfl) (by kernel_rfl) (fun _ _ _ h => h) (by kernel_rfl) hInv (by assumption) (by rfl) ?_ (fun hInv2 => ?_)
  rotate_left
  · (intro w hSw; (try dsimp only at hSw); obtain ⟨y1, y2, y3⟩ := x0 _ hSw; go_simp; (try with_reducible rfl))
  clear hInv; have hInv := hInv2; clear hInv2
  simp only [Act.put, List.setIfInBounds_toArray, List.set_cons_zero, List.set_cons_succ]
  refine WpEnd.take (i := 2) (some 68) (v := ?_) rfl rfl (by kernel_rfl) (by kernel_rfl) (by kernel_rfl) (fun _ _ _ h => h) (by kernel_rfl) hInv (by assumption) (by rfl) ?_ (fun hInv2 => ?_)
  rotate_left
  · (intro w hSw; (try dsimp only at hSw); obtain ⟨y1, y2, y3⟩ := x0 _ hSw; go_simp; (try with_reducible rfl))
  clear hInv; have hInv := hInv2; clear hInv2
  simp only [Act.put, List.setIfInBounds_toArray, List.set_cons_zero, List.set_cons_succ]
  refine WpEnd.take (i := 3) (some 69) (v := ?_) rfl rfl (by kernel_rfl) (by kernel_rfl) (by kernel_rfl) (fun _ _ _ h => h) (by kernel_rfl) hInv (by assumption) (by rfl) ?_ (fun hInv2 => ?_)
  rotate_left
  · (intro w hSw; (try dsimp only at hSw); obtain ⟨y1, y2, y3⟩ := x0 _ hSw; go_simp; (try with_reducible rfl))
  clear hInv; have hInv := hInv2; clear hInv2
  simp only [Act.put, List.setIfInBounds_toArray, List.set_cons_zero, List.set_cons_succ]
  refine WpEnd.take (i := 4) (some 70) (v := ?_) rfl rfl (by kernel_rfl) (by kernel_rfl) (by kernel_rfl) (fun _ _ _ h => h) (by kernel_rfl) hInv (by assumption) (by rfl) ?_ (fun hInv2 => ?_)
  rotate_left
  · (intro w hSw; (try dsimp only at hSw); obtain ⟨y1, y2, y3⟩ := x0 _ hSw; go_simp; (try with_reducible rfl))
  clear hInv; have hInv := hInv2; clear hInv2
  simp only [Act.put, List.setIfInBounds_toArray, List.set_cons_zero, List.set_cons_succ]
  refine WpEnd.take (i := 5) (some 71) (v := ?_) rfl rfl (by kernel_rfl) (by kernel_rfl) (by kernel_rfl) (fun _ _ _ h => h) (by kernel_rfl) hInv (by assumption) (by rfl) ?_ (fun hInv2 => ?_)
  rotate_left
  · (intro w hSw; (try dsimp only at hSw); obtain ⟨y1, y2, y3⟩ := x0 _ hSw; go_simp; (try with_reducible rfl))
  clear hInv; have hInv := hInv2; clear hInv2
  simp only [Act.put, List.setIfInBounds_toArray, List.set_cons_zero, List.set_cons_succ]
  refine WpEnd.take (i := 6) (some 72) (v := ?_) rfl rfl (by kernel_rfl) (by kernel_rfl) (by kernel_rfl) (fun _ _ _ h => h) (by kernel_rfl) hInv (by assumption) (by rfl) ?_ (fun hInv2 => ?_)
  rotate_left
  · (intro w hSw; (try dsimp only at hSw); obtain ⟨y1, y2, y3⟩ := x0 _ hSw; go_simp; (try with_reducible rfl))
  clear hInv; have hInv := hInv2; clear hInv2
  simp only [Act.put, List.setIfInBounds_toArray, List.set_cons_zero, List.set_cons_succ]
  refine WpEnd.take (i := 7) (some 73) (v := ?_) rfl rfl (by kernel_rfl) (by kernel_rfl) (by kernel_rfl) (fun _ _ _ h => h) (by kernel_rfl) hInv (by assumption) (by rfl) ?_ (fun hInv2 => ?_)
  rotate_left
  · (intro w hSw; (try dsimp only at hSw); obtain ⟨y1, y2, y3⟩ := x0 _ hSw; go_simp; (try with_reducible rfl))
  clear hInv; have hInv := hInv2; clear hInv2
  simp only [Act.put, List.setIfInBounds_toArray, List.set_cons_zero, List.set_cons_succ]
  refine WpEnd.take (i := 8) (some 74) (v := ?_) rfl rfl (by kernel_rfl) (by kernel_rfl) (by kernel_rfl) (fun _ _ _ h => h) (by kernel_rfl) hInv (by assumption) (by rfl) ?_ (fun hInv2 => ?_)
  rotate_left
  · (intro w hSw; (try dsimp only at hSw); obtain ⟨y1, y2, y3⟩ := x0 _ hSw; go_simp; (try with_reducible rfl))
  clear hInv; have hInv := hInv2; clear hInv2
  simp only [Act.put, List.setIfInBounds_toArray, List.set_cons_zero, List.set_cons_succ]
  refine WpEnd.take (i := 9) (some 75) (v := ?_) rfl rfl (by kernel_rfl) (by kernel_rfl) (by kernel_rfl) (fun _ _ _ h => h) (by kernel_rfl) hInv (by assumption) (by rfl) ?_ (fun hInv2 => ?_)
  rotate_left
  · (intro w hSw; (try dsimp only at hSw); obtain ⟨y1, y2, y3⟩ := x0 _ hSw; go_simp; (try with_reducible rfl))
  clear hInv; have hInv := hInv2; clear hInv2
  simp only [Act.put, List.setIfInBounds_toArray, List.set_cons_zero, List.set_cons_succ]
  refine WpEnd.ready (rs := [10]) (by kernel_rfl) (by simp) ?_
  refine EachEnd.cons (some 76) rfl rfl (by decide) (by kernel_rfl) hInv (fun K hKK hKB => ?_) EachEnd.nil
  refine step_build_1 33 9 [.string D] rfl _ rfl _ rfl (build_str _ D) ?_
  have hL1 := hL0.alloc hL0.size (Obj.cells [Value.string D].toArray 9)
  have hy1 := Blk.new w6.drew [.string D] 9
  obtain ⟨nb, hnb⟩ : ∃ nb, nb = w6.drew.heap.size := ⟨_, rfl⟩
  rw [← hnb] at hy1 ⊢
  obtain ⟨Wb, hWb⟩ : ∃ Wb, Wb = w6.drew.alloc (Obj.cells [Value.string D].toArray 9) := ⟨_, rfl⟩
  rw [← hWb] at hL1 hy1 ⊢
  refine hKK.out _ _ ((Keep.refl _ _).below hL1 (Nat.le_refl _)) (fun hInv2 hHeld2 => ?_)
  clear hKK hKB K hWb hnb hInv hHeld; have hInv := hInv2; have hHeld := hHeld2; clear hInv2 hHeld2
  simp only [Act.put, List.setIfInBounds_toArray, List.set_cons_zero, List.set_cons_succ]
  refine WpEnd.ready (rs := [11]) (by kernel_rfl) (by simp) ?_
  refine EachEnd.cons (some 77) rfl rfl (by decide) (by kernel_rfl) hInv (fun K hKK hKB => ?_) EachEnd.nil
  refine step_append_q 33 9 1 16 i0 (.string ⟨#[]⟩) rfl _ _ rfl Tryz.underlying33 hi0 hz0 rfl hz1 hz2 0 (.slice fa N fc) N _ rfl (q_below HQF.out hL1 (Nat.le_refl _)) nb 0 1 1 [.string D] rfl rfl (by intro u hu; simp at hu; subst hu; rfl) (fun j u hj => by rw [Nat.zero_add]; exact (hy1.cell j).trans hj) (by omega) (by unfold maxLen; omega) (Nat.zero_le _) ?_
  intro v' Wd hq2 hk2 hm2
  have hKd := ((Keep.refl (Value.slice fa N fc).ownBlock.toList w6).below hL1 (Nat.le_refl _)).trans hk2
  refine hKK.out _ _ hKd (fun hInv2 hHeld2 => ?_)
  clear hKK hKB K hInv hHeld; have hInv := hInv2; have hHeld := hHeld2; clear hInv2 hHeld2
  simp only [Act.put, List.setIfInBounds_toArray, List.set_cons_zero, List.set_cons_succ]
  refine WpEnd.take (i := 12) (some 78) (v := ?_) rfl rfl (by kernel_rfl) (by kernel_rfl) (by kernel_rfl) (fun _ _ _ h => h) (by kernel_rfl) hInv (by assumption) (by rfl) ?_ (fun hInv2 => ?_)
  rotate_left
  · (intro w hSw; (try dsimp only at hSw); obtain ⟨y1, y2, y3⟩ := x0 _ hSw; go_simp; (try with_reducible rfl))
  clear hInv; have hInv := hInv2; clear hInv2
  simp only [Act.put, List.setIfInBounds_toArray, List.set_cons_zero, List.set_cons_succ]
  refine WpEnd.take (i := 13) (some 79) (v := ?_) rfl rfl (by kernel_rfl) (by kernel_rfl) (by kernel_rfl) (fun _ _ _ h => h) (by kernel_rfl) hInv (by assumption) (by rfl) ?_ (fun hInv2 => ?_)
  rotate_left
  · (intro w hSw; (try dsimp only at hSw); obtain ⟨y1, y2, y3⟩ := x0 _ hSw; go_simp; (try with_reducible rfl))
  clear hInv; have hInv := hInv2; clear hInv2
  simp only [Act.put, List.setIfInBounds_toArray, List.set_cons_zero, List.set_cons_succ]
  refine WpEnd.ready (rs := [14]) (by kernel_rfl) (by simp) ?_
  refine EachEnd.last rfl (fun K hKK => ?_)
  have hBd := hBW.keep hKd (far_own a3)
  have c6 := hBd.cell 6; have f6 := hBd.free 6
  simp only [psCells, List.getElem?_cons_zero, List.getElem?_cons_succ] at c6
  have hz1s := hL1.size
  have hmv : Mv w6 (.slice fa N fc) v' := by
    intro k hk
    rcases hm2 with e | e
    · left; rw [← e]; exact hk
    · right; rw [e] at hk; injection hk with hk; omega
  obtain ⟨ra, rc, hve⟩ := qform hq2
  subst hve
  have hK7 : Keep (P :: (Value.slice fa N fc).ownBlock.toList) w6 (Wd.setCell ⟨P, 6, none⟩ (.slice ra (N + 1) rc)) := (hKd.mono (fun i hi => List.mem_cons_of_mem _ hi)).setCell (.inl (by simp)) _
  have hM7 := HM2.out.setF (l := s.found ++ [D]) hK7 hmv (by
    have hq3 := q_set (p := ⟨P, 6, none⟩) hq2 (mv_far a3 hmv hBW.lt) (Value.slice ra (N + 1) rc)
    rw [show (s.found ++ [D]).length = N + 1 by rw [HNN.out]; simp, stRow_snoc]
    exact hq3) (hBd.set 6 (.slice ra (N + 1) rc))
  have HM7 := Lib.hid hM7
  have HT7 := Lib.hid (HT2.out.trans ⟨hK7.mono (fun i hi => own_f hi), Mv.rfl, Mv.rfl, hmv⟩)
  clear hM7 hK7
  go_simp
  refine hKK.out _ _ ?_
  clear hKK K
  refine WpEnd.done (by kernel_rfl) ?_ _
  refine post_any (fun W => PM W P (.slice ga n gc) (.slice ua 0 uc) (.slice ra (N + 1) rc) { s with block := [], data := s.data ++ seven, found := s.found ++ [D] } ∧ PTo w W P dv0 (.slice ka s.block.length kc) (.slice fa N fc) (.slice ga n gc) (.slice ua 0 uc) (.slice ra (N + 1) rc)) ⟨HM7.out, HT7.out⟩ ?_
  clear HM7 HT7 HT2 HM2 HQF hq2 hk2 hm2 hKd hBd hHeld hInv c6 f6 hmv hz1s hy1 hL1 hL0 x0 hi0 hz0 hz1 hz2 i0 hBW hDW
  rintro w7 ⟨hM, hT⟩
  have HM := Lib.hid hM; have HT := Lib.hid hT; clear hM hT
  have HSE := Lib.hid (search_any _ _ _ _ _ _ _ P w7 HM.out.blk)
  go_wp2_with fail
  refine HSE.out.mono ?_
  rintro e w8 ⟨rfl, hK8, hB8⟩
  go_wp2_with fail
  go_end0
  have hM8 := HM.out.clear (s' := searchS { s with block := [], data := s.data ++ seven, found := s.found ++ [D] }) hK8 hB8 rfl rfl rfl
  rw [HDD.out] at hM8
  refine ⟨rfl, _, _, _, ?_, hM8⟩
  have hT8 := HT.out.trans ⟨hK8.mono (fun i hi => by simp at hi; simp [hi]), (show Mv w7 (.slice ga n gc) (.slice none 0 0) from fun k hk => by cases hk), (show Mv w7 (.slice ua 0 uc) (.slice none 0 0) from fun k hk => by cases hk), Mv.rfl⟩
  rw [← HNN.out]
  exact hT8
end
section
open Go.RowKit
set_option maxHeartbeats 8000000 in
set_option maxRecDepth 100000 in
theorem begin1_full (P : Nat) (dv kv fv : Value) (s : Ps) (seven : List UInt8) (wr : Int) (b : UInt8) (w : World) (hl : s.block.length = 7) (hd : s.data.length ≤ 100000) (h7 : seven.length ≤ 7) (hG : Gl w) (hown : ∀ i ∈ P :: (dv.ownBlock.toList ++ kv.ownBlock.toList ++ fv.ownBlock.toList), 1 < i)
    (hV : chkV (s.block ++ [b]) = .tuple #[.string ⟨seven.toArray⟩, .int .i64 wr, .int .i64 0]) (hn : 350 ≤ (s.data ++ seven).length) (hfl0 : s.found.length ≤ 1000000) (h : PM w P dv kv fv s) :
    Calls Tryz.prog 87 #[.pointer (some ⟨P, 0, none⟩), .int .u8 (b.toNat : Int)] w fun e w' => e = .returned (.tuple #[]) ∧ ∃ dv' kv' fv', PTo w w' P dv kv fv dv' kv' fv' ∧ PM w' P dv' kv' fv' (searchS { s with block := [], data := s.data ++ seven, found := s.found ++ [⟨(s.data ++ seven).toArray⟩] }) := by
  have HFL := Lib.hid hfl0; clear hfl0
  have HOWN := Lib.hid hown; have HV := Lib.hid hV; have HSZ := Lib.hid (And.intro hd h7); have HL7 := Lib.hid hl
  have HNX := Lib.hid hn
  clear hown hV hd h7 hl hn
  obtain ⟨dv0, hdv⟩ : ∃ dv0, dv0 = dv := ⟨_, rfl⟩
  rw [← hdv] at HOWN ⊢
  have HDV := Lib.hid hdv
  clear hdv
  have HP := Lib.hid h
  obtain ⟨ka, kc, rfl⟩ := brow_form h.block
  have HB := Lib.hid h.blk
  have HR := Lib.hid h.block
  have c0 := HB.out.cell 0
  have c1 := HB.out.cell 1
  have c2 := HB.out.cell 2
  have c3 := HB.out.cell 3
  have c4 := HB.out.cell 4
  have c5 := HB.out.cell 5
  have c6 := HB.out.cell 6
  simp only [psCells, List.getElem?_cons_zero, List.getElem?_cons_succ] at c0 c1 c2 c3 c4 c5 c6
  have f0 := HB.out.free 0
  have f1 := HB.out.free 1
  have f2 := HB.out.free 2
  have f3 := HB.out.free 3
  have f4 := HB.out.free 4
  have f5 := HB.out.free 5
  have f6 := HB.out.free 6
  have HGG := Lib.hid hG
  clear hG
  clear h
  go_enter Tryz.func87, Tryz.ntmps87
  go_wp2_with (at_builtin; refine append_byte_q _ rfl _ _ rfl _ _ rfl (q_alloc HR.out _) w.heap.size b rfl ?c1 ?c2 ?_)
  case c1 => exact (Blk.new w [vb b] 5).cell 0
  case c2 => have := HL7.out; omega
  intro v1 w1 hR1 hK1 hm1
  obtain ⟨va, vc, rfl⟩ := brow_form hR1
  obtain ⟨m, hm⟩ : ∃ m, m = (s.block ++ [b]).length := ⟨_, rfl⟩
  have HMM := Lib.hid hm
  rw [← hm] at hR1 hm1 ⊢
  clear hm
  obtain ⟨hB1, hM1, hT1⟩ := HP.out.appB (((Keep.refl _ w).alloc _).trans hK1) (by intro k hk; rcases hm1 with e | e; exact .inl (e ▸ hk); rw [e] at hk; injection hk with hk; subst hk; right; simp) hR1
  have HM1 := Lib.hid hM1; have HT1 := Lib.hid hT1
  clear hM1 hT1 hK1 hm1 hR1 c0 c1 c2 c3 c4 c5 c6 f0 f1 f2 f3 f4 f5 f6 HB HR HP
  have HB1 := Lib.hid hB1; clear hB1
  have c4 := HB1.out.cell 4; have f4 := HB1.out.free 4
  simp only [psCells, List.getElem?_cons_zero, List.getElem?_cons_succ] at c4
  go_upto_region 1 with fail
  clear c4 f4 HB1
  refine gen_world (fun W => PM W P dv (.slice va m vc) fv { s with block := s.block ++ [b] } ∧ PTo w W P dv (.slice ka s.block.length kc) fv dv (.slice va m vc) fv) ⟨HM1.out, HT1.out⟩ ?_
  clear HM1 HT1
  rintro w2 ⟨hM, hT⟩
  have HM := Lib.hid hM; have HT := Lib.hid hT; clear hM hT
  have hll : m = 8 := by have := HL7.out; rw [HMM.out]; simp; omega
  have q1 : ¬ (m : Int) < 8 := by omega
  have hG2 : Gl w2 := HGG.out.keep HT.out.keep (fun i hi => HOWN.out i (by rw [HDV.out]; exact hi))
  obtain ⟨B, hBB⟩ : ∃ B : ByteArray, B = ⟨(s.block ++ [b]).toArray⟩ := ⟨_, rfl⟩
  have hB8 : B.size = 8 := by rw [hBB, ← hll, HMM.out]; exact List.size_toArray
  have hBL : B.data.toList = s.block ++ [b] := by rw [hBB]
  have hcv := brow_string HM.out.block
  rw [← hBB] at hcv
  have HCK := Lib.hid (Check_any B w2 hB8 hG2)
  rw [hBL, HV.out] at HCK
  have c4 := HM.out.blk.cell 4
  simp only [psCells, List.getElem?_cons_zero, List.getElem?_cons_succ] at c4
  clear hBB hBL hll HGG HV hG2 hB8
  have hcv2 : (convert 97 9 (.slice va m vc)).run Tryz.prog w2 = .ok (.string B) w2 := hcv
  clear hcv
  go_wp2_with fail
  refine HCK.out.mono ?_
  rintro e w3 ⟨rfl, hL3⟩
  have HM3 := Lib.hid (HM.out.below hL3)
  have HT3 := Lib.hid (by rw [HDV.out]; exact HT.out.below hL3 : PTo w w3 P dv0 (.slice ka s.block.length kc) fv dv (.slice va m vc) fv)
  clear HM HT HCK hL3 c4 hcv2
  obtain ⟨da, dc, rfl⟩ := brow_form HM3.out.data
  have c3 := HM3.out.blk.cell 3; have f3 := HM3.out.blk.free 3
  simp only [psCells, List.getElem?_cons_zero, List.getElem?_cons_succ] at c3
  have HR3 := Lib.hid HM3.out.data
  go_wp2_with (at_builtin; refine append_string_q _ rfl _ _ rfl _ _ rfl HR3.out ⟨seven.toArray⟩ rfl ?c1 ?_)
  case c1 => obtain ⟨h4, h5⟩ := HSZ.out; show s.data.length + seven.toArray.size ≤ 1000000; rw [List.size_toArray]; omega
  intro v4 w4 hR4 hK4 hm4
  obtain ⟨hB4, hM4, hT4⟩ := HM3.out.appD hK4 (by intro k hk; rcases hm4 with e | e; exact .inl (e ▸ hk); rw [e] at hk; injection hk with hk; subst hk; right; simp) hR4
  obtain ⟨ga, gc, rfl⟩ := brow_form hR4
  obtain ⟨n, hn⟩ : ∃ n, n = (s.data ++ seven).length := ⟨_, rfl⟩
  have HN := Lib.hid hn
  rw [← hn] at hM4 hT4 ⊢
  clear hn hR4 hK4 hm4 HR3 c3 f3
  have HM4 := Lib.hid hM4; have HT4 := Lib.hid (HT3.out.trans hT4)
  have c3 := hB4.cell 3; have f3 := hB4.free 3
  simp only [psCells, List.getElem?_cons_zero, List.getElem?_cons_succ] at c3
  clear HM3 HT3 hM4 hT4 hB4
  go_upto_region 4 with fail
  clear c3 f3
  refine gen_world (fun W => PM W P (.slice ga n gc) (.slice va m vc) fv { s with block := s.block ++ [b], data := s.data ++ seven } ∧ PTo w W P dv0 (.slice ka s.block.length kc) fv (.slice ga n gc) (.slice va m vc) fv) ⟨HM4.out, HT4.out⟩ ?_
  clear HM4 HT4
  rintro w5 ⟨hM, hT⟩
  have HM := Lib.hid hM; have HT := Lib.hid hT; clear hM hT
  obtain ⟨u', hu, hRu, hou⟩ := brow_upto0 HM.out.block
  obtain ⟨ua, uc, rfl⟩ := brow_form hRu
  simp only [List.length_nil] at hu hRu hou
  have c4 := HM.out.blk.cell 4; have f4 := HM.out.blk.free 4
  simp only [psCells, List.getElem?_cons_zero, List.getElem?_cons_succ] at c4
  have hmu : Mv w5 (.slice va m vc) (.slice ua 0 uc) := fun k hk => .inl (hou ▸ hk)
  have hfar := HM.out.far.2.1
  have hK5 : Keep (P :: (Value.slice va m vc).ownBlock.toList) w5 (w5.setCell ⟨P, 4, none⟩ (.slice ua 0 uc)) := (Keep.refl _ _).setCell (.inl (by simp)) _
  have HM5 := Lib.hid (HM.out.setB hK5 hmu (q_set hRu (mv_far hfar hmu HM.out.blk.lt) _) (HM.out.blk.set 4 _))
  have HT5 := Lib.hid (HT.out.trans ⟨hK5.mono (fun i hi => own_k hi), Mv.rfl, hmu, Mv.rfl⟩)
  clear HM HT hRu hou hmu hfar hK5
  go_upto_region 5 with fail
  clear c4 f4 hu
  refine gen_world (fun W => PM W P (.slice ga n gc) (.slice ua 0 uc) fv { s with block := [], data := s.data ++ seven } ∧ PTo w W P dv0 (.slice ka s.block.length kc) fv (.slice ga n gc) (.slice ua 0 uc) fv) ⟨HM5.out, HT5.out⟩ ?_
  clear HM5 HT5
  rintro w6 ⟨hM, hT⟩
  have HM := Lib.hid hM; have HT := Lib.hid hT; clear hM hT
  have c3 := HM.out.blk.cell 3
  simp only [psCells, List.getElem?_cons_zero, List.getElem?_cons_succ] at c3
  have q3 : ¬ (n : Int) < 350 := by have := HNX.out; rw [HN.out]; omega
  have q4 : (0 : Int) < (n : Int) := by have := HNX.out; rw [HN.out]; omega
  go_upto_region 7 with fail
  obtain ⟨D, hD⟩ : ∃ D : ByteArray, D = ⟨(s.data ++ seven).toArray⟩ := ⟨_, rfl⟩
  have hQF := HM.out.found
  obtain ⟨fa, fc, hfe⟩ := qform hQF
  subst hfe
  have hfl : s.found.length ≤ 1000000 := HFL.out
  obtain ⟨N, hNN⟩ : ∃ N, N = s.found.length := ⟨_, rfl⟩
  have HNN := Lib.hid hNN
  have hN1 : N ≤ 1000000 := by rw [hNN]; exact hfl
  have hQF2 : QRow w6 0 9 1 (.slice fa N fc) N (stRow s.found) := by rw [hNN]; exact hQF
  have HQF := Lib.hid hQF2
  clear hQF hQF2 hfl
  obtain ⟨a1, a2, a3, a4, a5, a6⟩ := HM.out.far
  rw [show ({ s with block := [], data := s.data ++ seven } : Ps).found.length = N from hNN.symm] at a3 a5 a6
  have hBW := HM.out.blk; have hDW := HM.out.data
  simp only at hBW hDW
  rw [show ({ s with block := [], data := s.data ++ seven } : Ps).found.length = N from hNN.symm] at hBW
  have hMW := HM.out; have hTW := HT.out
  rw [show ({ s with block := [], data := s.data ++ seven } : Ps).found.length = N from hNN.symm] at hMW
  have hTW2 : PTo w w6 P dv0 (.slice ka s.block.length kc) (.slice fa N fc) (.slice ga n gc) (.slice ua 0 uc) (.slice fa N fc) := by rw [hNN]; exact hTW
  have HT2 := Lib.hid hTW2; have HM2 := Lib.hid hMW
  clear HT HM hTW hTW2 hMW hNN c3
  have x0 : ∀ W', Keep (Value.slice fa N fc).ownBlock.toList w6 W' → W'.cell? ⟨P, 6, none⟩ = some (.slice fa N fc) ∧ W'.cell? ⟨P, 3, none⟩ = some (.slice ga n gc) ∧ (convert 97 9 (.slice ga n gc)).run Tryz.prog W' = .ok (.string D) W' := fun W' k => by
    have hB' := hBW.keep k (far_own a3)
    have c6 := hB'.cell 6; have c3 := hB'.cell 3
    simp only [psCells, List.getElem?_cons_zero, List.getElem?_cons_succ] at c6 c3
    have hD' := brow_string (q_keep hDW k (fun g hg hm => by rw [Option.mem_toList] at hm; exact a5 g hg hm))
    rw [← hD] at hD'
    exact ⟨c6, c3, hD'⟩
  have HDD := Lib.hid hD; clear hD
  clear a1 a2 a4 a6
  obtain ⟨i0, hi0, hz0, hz1, hz2⟩ := info_parts info_s1
  refine region_end (fun W' => Keep (Value.slice fa N fc).ownBlock.toList w6 W') 14 (by kernel_rfl) ((Keep.refl _ _).drew) (fun hInv hHeld => ?_)
  have hL0 : Below w6.heap.size w6 w6.drew := (Below.refl _ _).drew
  refine WpEnd.take (i := 0) (some 66) (v := ?_) rfl rfl (by kernel_rfl) (by kernel_rfl) (by kernel_rfl) (fun _ _ _ h => h) (by kernel_rfl) hInv (by assumption) (by rfl) ?_ (fun hInv2 => ?_)
  rotate_left
  · (intro w hSw; (try dsimp only at hSw); obtain ⟨y1, y2, y3⟩ := x0 _ hSw; go_simp; (try with_reducible rfl))
  clear hInv; have hInv := hInv2; clear hInv2
  simp only [Act.put, List.setIfInBounds_toArray, List.set_cons_zero, List.set_cons_succ]
  refine WpEnd.take (i := 1) (some 67) (v := ?_) rfl rfl (by kernel_rfl) (by kernel_rfl) (by kernel_rfl) (fun _ _ _ h => h) (by kernel_rfl) hInv (by assumption) (by rfl) ?_ (fun hInv2 => ?_)
  rotate_left
  · (intro w hSw; (try dsimp only at hSw); obtain ⟨y1, y2, y3⟩ := x0 _ hSw; go_simp; (try with_reducible rfl))
  clear hInv; have hInv := hInv2; clear hInv2
  simp only [Act.put, List.setIfInBounds_toArray, List.set_cons_zero, List.set_cons_succ]
  refine WpEnd.take (i := 2) (some 68) (v := ?_) rfl rfl (by kernel_rfl) (by kernel_rfl) (by kernel_rfl) (fun _ _ _ h => h) (by kernel_rfl) hInv (by assumption) (by rfl) ?_ (fun hInv2 => ?_)
  rotate_left
  · (intro w hSw; (try dsimp only at hSw); obtain ⟨y1, y2, y3⟩ := x0 _ hSw; go_simp; (try with_reducible rfl))
  clear hInv; have hInv := hInv2; clear hInv2
  simp only [Act.put, List.setIfInBounds_toArray, List.set_cons_zero, List.set_cons_succ]
  refine WpEnd.take (i := 3) (some 69) (v := ?_) rfl rfl (by kernel_rfl) (by kernel_rfl) (by kernel_rfl) (fun _ _ _ h => h) (by kernel_rfl) hInv (by assumption) (by rfl) ?_ (fun hInv2 => ?_)
  rotate_left
  · (intro w hSw; (try dsimp only at hSw); obtain ⟨y1, y2, y3⟩ := x0 _ hSw; go_simp; (try with_reducible rfl))
  clear hInv; have hInv := hInv2; clear hInv2
  simp only [Act.put, List.setIfInBounds_toArray, List.set_cons_zero, List.set_cons_succ]
  refine WpEnd.take (i := 4) (some 70) (v := ?_) rfl rfl (by kernel_rfl) (by kernel_rfl) (by kernel_rfl) (fun _ _ _ h => h) (by kernel_rfl) hInv (by assumption) (by rfl) ?_ (fun hInv2 => ?_)
  rotate_left
  · (intro w hSw; (try dsimp only at hSw); obtain ⟨y1, y2, y3⟩ := x0 _ hSw; go_simp; (try with_reducible rfl))
  clear hInv; have hInv := hInv2; clear hInv2
  simp only [Act.put, List.setIfInBounds_toArray, List.set_cons_zero, List.set_cons_succ]
  refine WpEnd.take (i := 5) (some 71) (v := ?_) rfl rfl (by kernel_rfl) (by kernel_rfl) (by kernel_rfl) (fun _ _ _ h => h) (by kernel_rfl) hInv (by assumption) (by rfl) ?_ (fun hInv2 => ?_)
  rotate_left
  · (intro w hSw; (try dsimp only at hSw); obtain ⟨y1, y2, y3⟩ := x0 _ hSw; go_simp; (try with_reducible rfl))
  clear hInv; have hInv := hInv2; clear hInv2
  simp only [Act.put, List.setIfInBounds_toArray, List.set_cons_zero, List.set_cons_succ]
  refine WpEnd.take (i := 6) (some 72) (v := ?_) rfl rfl (by kernel_rfl) (by kernel_rfl) (by kernel_rfl) (fun _ _ _ h => h) (by kernel_rfl) hInv (by assumption) (by rfl) ?_ (fun hInv2 => ?_)
  rotate_left
  · (intro w hSw; (try dsimp only at hSw); obtain ⟨y1, y2, y3⟩ := x0 _ hSw; go_simp; (try with_reducible rfl))
  clear hInv; have hInv := hInv2; clear hInv2
  simp only [Act.put, List.setIfInBounds_toArray, List.set_cons_zero, List.set_cons_succ]
  refine WpEnd.take (i := 7) (some 73) (v := ?_) rfl rfl (by kernel_rfl) (by kernel_rfl) (by kernel_rfl) (fun _ _ _ h => h) (by kernel_rfl) hInv (by assumption) (by rfl) ?_ (fun hInv2 => ?_)
  rotate_left
  · (intro w hSw; (try dsimp only at hSw); obtain ⟨y1, y2, y3⟩ := x0 _ hSw; go_simp; (try with_reducible rfl))
  clear hInv; have hInv := hInv2; clear hInv2
  simp only [Act.put, List.setIfInBounds_toArray, List.set_cons_zero, List.set_cons_succ]
  refine WpEnd.take (i := 8) (some 74) (v := ?_) rfl rfl (by kernel_rfl) (by kernel_rfl) (by kernel_rfl) (fun _ _ _ h => h) (by kernel_rfl) hInv (by assumption) (by rfl) ?_ (fun hInv2 => ?_)
  rotate_left
  · (intro w hSw; (try dsimp only at hSw); obtain ⟨y1, y2, y3⟩ := x0 _ hSw; go_simp; (try with_reducible rfl))
  clear hInv; have hInv := hInv2; clear hInv2
  simp only [Act.put, List.setIfInBounds_toArray, List.set_cons_zero, List.set_cons_succ]
  refine WpEnd.take (i := 9) (some 75) (v := ?_) rfl rfl (by kernel_rfl) (by kernel_rfl) (by kernel_rfl) (fun _ _ _ h => h) (by kernel_rfl) hInv (by assumption) (by rfl) ?_ (fun hInv2 => ?_)
  rotate_left
  · (intro w hSw; (try dsimp only at hSw); obtain ⟨y1, y2, y3⟩ := x0 _ hSw; go_simp; (try with_reducible rfl))
  clear hInv; have hInv := hInv2; clear hInv2
  simp only [Act.put, List.setIfInBounds_toArray, List.set_cons_zero, List.set_cons_succ]
  refine WpEnd.ready (rs := [10]) (by kernel_rfl) (by simp) ?_
  refine EachEnd.cons (some 76) rfl rfl (by decide) (by kernel_rfl) hInv (fun K hKK hKB => ?_) EachEnd.nil
  refine step_build_1 33 9 [.string D] rfl _ rfl _ rfl (build_str _ D) ?_
  have hL1 := hL0.alloc hL0.size (Obj.cells [Value.string D].toArray 9)
  have hy1 := Blk.new w6.drew [.string D] 9
  obtain ⟨nb, hnb⟩ : ∃ nb, nb = w6.drew.heap.size := ⟨_, rfl⟩
  rw [← hnb] at hy1 ⊢
  obtain ⟨Wb, hWb⟩ : ∃ Wb, Wb = w6.drew.alloc (Obj.cells [Value.string D].toArray 9) := ⟨_, rfl⟩
  rw [← hWb] at hL1 hy1 ⊢
  refine hKK.out _ _ ((Keep.refl _ _).below hL1 (Nat.le_refl _)) (fun hInv2 hHeld2 => ?_)
  clear hKK hKB K hWb hnb hInv hHeld; have hInv := hInv2; have hHeld := hHeld2; clear hInv2 hHeld2
  simp only [Act.put, List.setIfInBounds_toArray, List.set_cons_zero, List.set_cons_succ]
  refine WpEnd.ready (rs := [11]) (by kernel_rfl) (by simp) ?_
  refine EachEnd.cons (some 77) rfl rfl (by decide) (by kernel_rfl) hInv (fun K hKK hKB => ?_) EachEnd.nil
  refine step_append_q 33 9 1 16 i0 (.string ⟨#[]⟩) rfl _ _ rfl Tryz.underlying33 hi0 hz0 rfl hz1 hz2 0 (.slice fa N fc) N _ rfl (q_below HQF.out hL1 (Nat.le_refl _)) nb 0 1 1 [.string D] rfl rfl (by intro u hu; simp at hu; subst hu; rfl) (fun j u hj => by rw [Nat.zero_add]; exact (hy1.cell j).trans hj) (by omega) (by unfold maxLen; omega) (Nat.zero_le _) ?_
  intro v' Wd hq2 hk2 hm2
  have hKd := ((Keep.refl (Value.slice fa N fc).ownBlock.toList w6).below hL1 (Nat.le_refl _)).trans hk2
  refine hKK.out _ _ hKd (fun hInv2 hHeld2 => ?_)
  clear hKK hKB K hInv hHeld; have hInv := hInv2; have hHeld := hHeld2; clear hInv2 hHeld2
  simp only [Act.put, List.setIfInBounds_toArray, List.set_cons_zero, List.set_cons_succ]
  refine WpEnd.take (i := 12) (some 78) (v := ?_) rfl rfl (by kernel_rfl) (by kernel_rfl) (by kernel_rfl) (fun _ _ _ h => h) (by kernel_rfl) hInv (by assumption) (by rfl) ?_ (fun hInv2 => ?_)
  rotate_left
  · (intro w hSw; (try dsimp only at hSw); obtain ⟨y1, y2, y3⟩ := x0 _ hSw; go_simp; (try with_reducible rfl))
  clear hInv; have hInv := hInv2; clear hInv2
  simp only [Act.put, List.setIfInBounds_toArray, List.set_cons_zero, List.set_cons_succ]
  refine WpEnd.take (i := 13) (some 79) (v := ?_) rfl rfl (by kernel_rfl) (by kernel_rfl) (by kernel_rfl) (fun _ _ _ h => h) (by kernel_rfl) hInv (by assumption) (by rfl) ?_ (fun hInv2 => ?_)
  rotate_left
  · (intro w hSw; (try dsimp only at hSw); obtain ⟨y1, y2, y3⟩ := x0 _ hSw; go_simp; (try with_reducible rfl))
  clear hInv; have hInv := hInv2; clear hInv2
  simp only [Act.put, List.setIfInBounds_toArray, List.set_cons_zero, List.set_cons_succ]
  refine WpEnd.ready (rs := [14]) (by kernel_rfl) (by simp) ?_
  refine EachEnd.last rfl (fun K hKK => ?_)
  have hBd := hBW.keep hKd (far_own a3)
  have c6 := hBd.cell 6; have f6 := hBd.free 6
  simp only [psCells, List.getElem?_cons_zero, List.getElem?_cons_succ] at c6
  have hz1s := hL1.size
  have hmv : Mv w6 (.slice fa N fc) v' := by
    intro k hk
    rcases hm2 with e | e
    · left; rw [← e]; exact hk
    · right; rw [e] at hk; injection hk with hk; omega
  obtain ⟨ra, rc, hve⟩ := qform hq2
  subst hve
  have hK7 : Keep (P :: (Value.slice fa N fc).ownBlock.toList) w6 (Wd.setCell ⟨P, 6, none⟩ (.slice ra (N + 1) rc)) := (hKd.mono (fun i hi => List.mem_cons_of_mem _ hi)).setCell (.inl (by simp)) _
  have hM7 := HM2.out.setF (l := s.found ++ [D]) hK7 hmv (by
    have hq3 := q_set (p := ⟨P, 6, none⟩) hq2 (mv_far a3 hmv hBW.lt) (Value.slice ra (N + 1) rc)
    rw [show (s.found ++ [D]).length = N + 1 by rw [HNN.out]; simp, stRow_snoc]
    exact hq3) (hBd.set 6 (.slice ra (N + 1) rc))
  have HM7 := Lib.hid hM7
  have HT7 := Lib.hid (HT2.out.trans ⟨hK7.mono (fun i hi => own_f hi), Mv.rfl, Mv.rfl, hmv⟩)
  clear hM7 hK7
  go_simp
  refine hKK.out _ _ ?_
  clear hKK K
  refine WpEnd.done (by kernel_rfl) ?_ _
  refine post_any (fun W => PM W P (.slice ga n gc) (.slice ua 0 uc) (.slice ra (N + 1) rc) { s with block := [], data := s.data ++ seven, found := s.found ++ [D] } ∧ PTo w W P dv0 (.slice ka s.block.length kc) (.slice fa N fc) (.slice ga n gc) (.slice ua 0 uc) (.slice ra (N + 1) rc)) ⟨HM7.out, HT7.out⟩ ?_
  clear HM7 HT7 HT2 HM2 HQF hq2 hk2 hm2 hKd hBd hHeld hInv c6 f6 hmv hz1s hy1 hL1 hL0 x0 hi0 hz0 hz1 hz2 i0 hBW hDW
  rintro w7 ⟨hM, hT⟩
  have HM := Lib.hid hM; have HT := Lib.hid hT; clear hM hT
  have HSE := Lib.hid (search_any _ _ _ _ _ _ _ P w7 HM.out.blk)
  go_wp2_with fail
  refine HSE.out.mono ?_
  rintro e w8 ⟨rfl, hK8, hB8⟩
  go_wp2_with fail
  go_end0
  have hM8 := HM.out.clear (s' := searchS { s with block := [], data := s.data ++ seven, found := s.found ++ [D] }) hK8 hB8 rfl rfl rfl
  rw [HDD.out] at hM8
  refine ⟨rfl, _, _, _, ?_, hM8⟩
  have hT8 := HT.out.trans ⟨hK8.mono (fun i hi => by simp at hi; simp [hi]), (show Mv w7 (.slice ga n gc) (.slice none 0 0) from fun k hk => by cases hk), (show Mv w7 (.slice ua 0 uc) (.slice none 0 0) from fun k hk => by cases hk), Mv.rfl⟩
  rw [← HNN.out]
  exact hT8
end
section
open Go.RowKit
def Ps.fine (s : Ps) : Prop := s.data.length < 350 ∧ s.block.length < 8 ∧ (s.begun = false → s.data = [] ∧ s.block = [])
theorem chkL_len (l : List UInt8) (s : List UInt8) (n : Nat) (hl : l.length = 8) (h : chkL l = some (s, n)) : s.length = 7 := by
  have h7 : (l.take 7).length = 7 := by rw [List.length_take]; omega
  unfold chkL at h
  split at h
  · injection h with h; injection h with h1 h2; rw [← h1]; exact h7
  · split at h
    · injection h with h; injection h with h1 h2
      rw [← h1]
      split
      · unfold flipAt; rw [List.length_set]; exact h7
      · exact h7
    · cases h
theorem stepP_fine (s : Ps) (b : UInt8) (h : s.fine) : (stepP s b).fine ∧ (stepP s b).found.length ≤ s.found.length + 1 := by
  obtain ⟨h1, h2, h3⟩ := h
  have hlen : (s.block ++ [b]).length = s.block.length + 1 := by simp
  have hS : ∀ t : Ps, (searchS t).fine := fun t => ⟨by show 0 < 350; decide, by show 0 < 8; decide, fun _ => ⟨rfl, rfl⟩⟩
  unfold stepP
  split
  · rename_i hb
    split
    · rename_i hl
      exact ⟨⟨h1, hl, fun hc => by simp [hb] at hc⟩, by show s.found.length ≤ _; omega⟩
    · rename_i hl
      split
      · rename_i seven n hc
        split
        · rename_i hn
          exact ⟨⟨hn, by show 0 < 8; decide, fun hc => by simp [hb] at hc⟩, by show s.found.length ≤ _; omega⟩
        · exact ⟨hS _, by show (s.found ++ [_]).length ≤ _; simp⟩
      · split
        · exact ⟨hS _, by show (s.found ++ [_]).length ≤ _; simp⟩
        · exact ⟨hS _, by show s.found.length ≤ _; omega⟩
  · rename_i hb
    have hb' : s.begun = false := by simpa using hb
    obtain ⟨e1, e2⟩ := h3 hb'
    split
    · exact ⟨⟨h1, h2, fun hc => by cases hc⟩, by show s.found.length ≤ _; omega⟩
    · exact ⟨⟨h1, h2, fun _ => ⟨e1, e2⟩⟩, by show s.found.length ≤ _; omega⟩
def POwn (P : Nat) (dv kv fv : Value) : Prop := ∀ i ∈ P :: (dv.ownBlock.toList ++ kv.ownBlock.toList ++ fv.ownBlock.toList), 1 < i
theorem PTo.own {W W' : World} {P : Nat} {dv kv fv dv' kv' fv' : Value} (h : PTo W W' P dv kv fv dv' kv' fv') (ho : POwn P dv kv fv) (hg : 1 < W.heap.size) : POwn P dv' kv' fv' := by
  intro i hi
  simp only [List.mem_cons, List.mem_append, Option.mem_toList] at hi
  have ho' : ∀ j, (j = P ∨ (dv.ownBlock = some j ∨ kv.ownBlock = some j) ∨ fv.ownBlock = some j) → 1 < j := fun j hj => ho j (by simpa only [List.mem_cons, List.mem_append, Option.mem_toList] using hj)
  rcases hi with e | (e | e) | e
  · exact ho' i (.inl e)
  · rcases h.md i e with e | e
    · exact ho' i (.inr (.inl (.inl e)))
    · omega
  · rcases h.mb i e with e | e
    · exact ho' i (.inr (.inl (.inr e)))
    · omega
  · rcases h.mf i e with e | e
    · exact ho' i (.inr (.inr e))
    · omega
/-- What a call with the parser leaves: the parser in its new state. -/
def PNext (w w' : World) (P : Nat) (dv kv fv : Value) (s : Ps) : Prop := ∃ dv' kv' fv', PTo w w' P dv kv fv dv' kv' fv' ∧ PM w' P dv' kv' fv' s
theorem chkV_some (l : List UInt8) (s : List UInt8) (n : Nat) (h : chkL l = some (s, n)) : chkV l = .tuple #[.string ⟨s.toArray⟩, .int .i64 n, .int .i64 0] := by
  unfold chkV; rw [h]; rfl
theorem chkV_no (l : List UInt8) (h : chkL l = none) : chkV l = .tuple #[.string ⟨([] : List UInt8).toArray⟩, .int .i64 0, .int .i64 6] := by
  unfold chkV; rw [h]
theorem begin1_any (P : Nat) (dv kv fv : Value) (s : Ps) (b : UInt8) (w : World) (hb : s.begun = true) (hf : s.fine) (hfl : s.found.length ≤ 1000000) (hG : Gl w) (hown : POwn P dv kv fv) (h : PM w P dv kv fv s) :
    Calls Tryz.prog 87 #[.pointer (some ⟨P, 0, none⟩), .int .u8 (b.toNat : Int)] w fun e w' => e = .returned (.tuple #[]) ∧ PNext w w' P dv kv fv (stepP s b) := by
  obtain ⟨h1, h2, h3⟩ := hf
  have hlen : (s.block ++ [b]).length = s.block.length + 1 := by simp
  unfold stepP
  rw [if_pos hb]
  split
  · rename_i hl
    refine (begin1_more P dv kv fv s b w (by omega) h).mono ?_
    rintro e w' ⟨rfl, kv', hT, hM⟩
    exact ⟨rfl, _, _, _, hT, hM⟩
  · rename_i hl
    split
    · rename_i seven n hc
      have hs7 := chkL_len _ _ _ (by omega) hc
      split
      · rename_i hn
        refine (begin1_good P dv kv fv s seven n b w (by omega) (by omega) (by omega) hG hown (chkV_some _ _ _ hc) hn h).mono ?_
        rintro e w' ⟨rfl, dv', kv', hT, hM⟩
        exact ⟨rfl, _, _, _, hT, hM⟩
      · rename_i hn
        refine (begin1_full P dv kv fv s seven n b w (by omega) (by omega) (by omega) hG hown (chkV_some _ _ _ hc) (by omega) hfl h).mono ?_
        rintro e w' ⟨rfl, dv', kv', fv', hT, hM⟩
        exact ⟨rfl, _, _, _, hT, hM⟩
    · rename_i hc
      split
      · rename_i hn
        refine (begin1_fail P dv kv fv s [] 0 b w (by omega) (by omega) (by simp) hG hown (chkV_no _ hc) (by simpa using hn) hfl h).mono ?_
        rintro e w' ⟨rfl, dv', kv', fv', hT, hM⟩
        rw [List.append_nil] at hM
        exact ⟨rfl, _, _, _, hT, hM⟩
      · rename_i hn
        refine (begin1_none P dv kv fv s [] 0 b w (by omega) (by omega) (by simp) hG hown (chkV_no _ hc) (by simpa using hn) h).mono ?_
        rintro e w' ⟨rfl, dv', kv', hT, hM⟩
        exact ⟨rfl, _, _, _, hT, hM⟩
theorem search1_step (P : Nat) (dv kv fv : Value) (s : Ps) (b : UInt8) (w : World) (hb : s.begun = false) (hG : Gl w) (h : PM w P dv kv fv s) :
    Calls Tryz.prog 47 #[.pointer (some ⟨P, 0, none⟩), .int .u8 (b.toNat : Int)] w fun e w' => e = .returned (.tuple #[]) ∧ PNext w w' P dv kv fv (stepP s b) := by
  have hB := h.blk
  unfold psCells at hB
  rw [hb] at hB
  refine (search1_any _ dv kv (.bool false) fv s.known s.last b P w hG hB).mono ?_
  rintro e w' ⟨rfl, hK, hB2⟩
  refine ⟨rfl, dv, kv, fv, ⟨hK.mono (fun i hi => by simp at hi; simp [hi]), Mv.rfl, Mv.rfl, Mv.rfl⟩, ?_⟩
  have hbn : ¬ s.begun = true := by rw [hb]; simp
  unfold stepP
  rw [if_neg hbn]
  split
  · rename_i hc
    rw [if_pos hc] at hB2
    exact h.fix hK hB2 rfl rfl rfl
  · rename_i hc
    rw [if_neg hc] at hB2
    refine h.fix hK ?_ rfl rfl rfl
    unfold psCells
    have e1 : ({ s with known := true, last := b } : Ps).take = s.take := rfl
    rw [e1]
    show Blk w' P [s.take, .bool true, .int .u8 (b.toNat : Int), dv, kv, .bool s.begun, fv] _
    rw [hb]
    exact hB2
def Ps.fn (s : Ps) : Nat := if s.begun then 87 else 47
theorem Ps.take_fn (s : Ps) : s.take = .func (.func s.fn) #[] #[] := by unfold Ps.take Ps.fn; split <;> rfl
theorem take_any (P : Nat) (dv kv fv : Value) (s : Ps) (b : UInt8) (w : World) (hf : s.fine) (hfl : s.found.length ≤ 1000000) (hG : Gl w) (hown : POwn P dv kv fv) (h : PM w P dv kv fv s) :
    Calls Tryz.prog s.fn #[.pointer (some ⟨P, 0, none⟩), .int .u8 (b.toNat : Int)] w fun e w' => e = .returned (.tuple #[]) ∧ PNext w w' P dv kv fv (stepP s b) := by
  unfold Ps.fn
  cases hb : s.begun with
  | true => exact begin1_any P dv kv fv s b w hb hf hfl hG hown h
  | false => exact search1_step P dv kv fv s b w hb hG h
end
section
open Go.RowKit
def feedP (s : Ps) (l : List UInt8) : Ps := l.foldl stepP s
theorem feedP_snoc (s : Ps) (l : List UInt8) (c : UInt8) : feedP s (l ++ [c]) = stepP (feedP s l) c := by simp [feedP]
theorem feedP_append (s : Ps) (l m : List UInt8) : feedP s (l ++ m) = feedP (feedP s l) m := by simp [feedP]
theorem feedP_fine (s : Ps) (h : s.fine) (l : List UInt8) : (feedP s l).fine ∧ (feedP s l).found.length ≤ s.found.length + l.length := by
  induction l generalizing s with
  | nil => exact ⟨h, by show s.found.length ≤ _; simp⟩
  | cons c l ih =>
    obtain ⟨h1, h2⟩ := stepP_fine s c h
    obtain ⟨h3, h4⟩ := ih _ h1
    refine ⟨h3, ?_⟩
    show (feedP (stepP s c) l).found.length ≤ _
    simp only [List.length_cons]; omega
theorem fn_eql (f : Nat) (W : World) : (binOp BinOp.eql 108 (.func (.func f) #[] #[]) .nilFunc).run Tryz.prog W = .ok (.bool false) W := by kernel_rfl
set_option maxHeartbeats 4000000 in
set_option maxRecDepth 100000 in
theorem clnone_any (f : Nat) (kn ls dv bv bg fv : Value) (P : Nat) (w : World) (hB : Blk w P [.func (.func f) #[] #[], kn, ls, dv, bv, bg, fv] 110) :
    Calls Tryz.prog 23 #[.pointer (some ⟨P, 0, none⟩)] w fun e w' => e = .returned (.bool false) ∧ w = w' := by
  have c0 := hB.cell 0
  simp only [List.getElem?_cons_zero] at c0
  clear hB
  have he := fn_eql f
  go_enter Tryz.func23, Tryz.ntmps23
  go_wp2_with fail
  go_ret
  exact ⟨rfl, rfl⟩
def freshP : Ps := ⟨false, false, 0, [], [], []⟩
theorem freshP_fine : freshP.fine := ⟨by show 0 < 350; decide, by show 0 < 8; decide, fun _ => ⟨rfl, rfl⟩⟩
set_option maxHeartbeats 4000000 in
set_option maxRecDepth 100000 in
theorem clNew_any (w : World) : Calls Tryz.prog 19 #[] w fun e w' => e = .returned (.pointer (some ⟨w.heap.size, 0, none⟩)) ∧ Below w.heap.size w w' ∧ PM w' w.heap.size (.slice none 0 0) (.slice none 0 0) (.slice none 0 0) freshP := by
  have hB := Blk.new w [.nilFunc, .bool false, .int .u8 0, .slice none 0 0, .slice none 0 0, .bool false, .slice none 0 0] 110
  have HS := Lib.hid (search_any _ _ _ _ _ _ _ _ _ hB)
  have HL := Lib.hid ((Below.refl w.heap.size w).alloc (Nat.le_refl _) (Obj.cells [.nilFunc, .bool false, .int .u8 0, .slice none 0 0, .slice none 0 0, .bool false, .slice none 0 0].toArray 110))
  clear hB
  go_enter Tryz.func19, Tryz.ntmps19
  go_wp2_with fail
  refine HS.out.mono ?_
  rintro e w' ⟨rfl, hK, hB2⟩
  go_wp2_with fail
  go_ret
  refine ⟨rfl, ⟨HL.out.trans (Keep.toBelowAt hK (by simp) (fun i hi => by simp at hi; omega)), ?_⟩⟩
  exact PM.of hB2 (brow_nil _) (brow_nil _) (q_nil _ _ _ _) (fun _ _ h => by cases h) (fun _ _ h => by cases h) (fun _ _ h => by cases h) (fun _ h => by cases h) (fun _ h => by cases h) (fun _ h => by cases h)
set_option maxHeartbeats 4000000 in
set_option maxRecDepth 100000 in
theorem clReset_any (P : Nat) (dv kv fv : Value) (s : Ps) (w : World) (h : PM w P dv kv fv s) : Calls Tryz.prog 6 #[.pointer (some ⟨P, 0, none⟩)] w fun e w' => e = .returned (.tuple #[]) ∧ Keep [P] w w' ∧ PM w' P (.slice none 0 0) (.slice none 0 0) fv (searchS s) := by
  have hB := h.blk
  unfold psCells at hB
  rw [Ps.take_fn] at hB
  have HN := Lib.hid (clnone_any _ _ _ _ _ _ _ P w hB)
  have HS := Lib.hid (search_any _ _ _ _ _ _ _ P w hB)
  have HP := Lib.hid h
  clear hB h
  go_enter Tryz.func6, Tryz.ntmps6
  go_wp2_with fail
  refine HN.out.mono ?_
  rintro e _ ⟨rfl, rfl⟩
  go_wp2_with fail
  refine HS.out.mono ?_
  rintro e w' ⟨rfl, hK, hB2⟩
  go_wp2_with fail
  go_end0
  exact ⟨rfl, hK, HP.out.clear hK hB2 rfl rfl rfl⟩
theorem feedP_take (s : Ps) (b : ByteArray) (k : Nat) (h : k < b.size) : feedP s (b.data.toList.take (k + 1)) = stepP (feedP s (b.data.toList.take k)) b[k] := by
  rw [take_succ_str b k h, feedP_snoc]
theorem psCells_take (dv kv fv : Value) (s : Ps) : psCells dv kv fv s = [.func (.func s.fn) #[] #[], .bool s.known, .int .u8 (s.last.toNat : Int), dv, kv, .bool s.begun, fv] := by
  unfold psCells; rw [Ps.take_fn]
set_option maxHeartbeats 8000000 in
set_option maxRecDepth 100000 in
theorem clFeed_any (P : Nat) (dv kv : Value) (s : Ps) (b : ByteArray) (w : World) (hb : b.size ≤ 100000) (hf : s.fine) (hfd : s.found = []) (hG : Gl w) (hown : POwn P dv kv (.slice none 0 0)) (h : PM w P dv kv (.slice none 0 0) s) :
    Calls Tryz.prog 37 #[.pointer (some ⟨P, 0, none⟩), .string b] w fun e w' => ∃ dv' kv' v, e = .returned v ∧ PTo w w' P dv kv (.slice none 0 0) dv' kv' v ∧
      QRow w' 0 9 1 v (feedP s b.data.toList).found.length (stRow (feedP s b.data.toList).found) ∧ Far (bv P) v ∧ Far dv' v ∧ Far kv' v ∧ PM w' P dv' kv' (.slice none 0 0) { feedP s b.data.toList with found := [] } := by
  have hB := h.blk
  rw [psCells_take] at hB
  have HN := Lib.hid (clnone_any _ _ _ _ _ _ _ P w hB)
  have HP := Lib.hid h; have HG := Lib.hid hG; have HO := Lib.hid hown; have HF := Lib.hid hf; have HFD := Lib.hid hfd
  clear hB h hG hown hf hfd
  go_enter Tryz.func37, Tryz.ntmps37
  go_wp2_with fail
  refine HN.out.mono ?_
  rintro e _ ⟨rfl, rfl⟩
  clear HN
  go_wp2_with fail
  go_loopw [11] (fun i wr => ∃ k : Nat, k ≤ b.size ∧ i = .int .i64 k ∧ ∃ dv' kv' fv', PTo w wr P dv kv (.slice none 0 0) dv' kv' fv' ∧ PM wr P dv' kv' fv' (feedP s (b.data.toList.take k))) (fun i _ => b.size - (intOf i).toNat)
  case atStart => exact ⟨0, Nat.zero_le _, rfl, _, _, _, PTo.refl, HP.out⟩
  case round =>
    obtain ⟨k, hk, rfl, dv1, kv1, fv1, hT, hM⟩ := hrel
    by_cases hlt : k < b.size
    · have HT := Lib.hid hT; have HM0 := hM
      obtain ⟨s1, hs1⟩ : ∃ s1, s1 = feedP s (b.data.toList.take k) := ⟨_, rfl⟩
      have hfine := feedP_fine s HF.out (b.data.toList.take k)
      rw [← hs1] at HM0 hfine
      have hfl : s1.found.length ≤ 1000000 := by
        have h2 := hfine.2
        rw [HFD.out, List.length_take] at h2
        simp at h2; omega
      have HS1 := Lib.hid (And.intro hfine.1 hfl)
      have HM := Lib.hid HM0
      have HE := Lib.hid hs1
      clear hT hM HM0 hs1 hfine hfl HP
      cases hbg : s1.begun
      · have HC := Lib.hid (fun (W : World) (hT2 : PTo w W P dv kv (.slice none 0 0) dv1 kv1 fv1) (hM2 : PM W P dv1 kv1 fv1 s1) => (by have := take_any P dv1 kv1 fv1 s1 b[k] W HS1.out.1 HS1.out.2 (HG.out.keep hT2.keep (fun i hi => HO.out i hi)) (hT2.own HO.out HG.out.lt) hM2; unfold Ps.fn at this; rw [hbg] at this; exact this : Calls Tryz.prog 47 #[.pointer (some ⟨P, 0, none⟩), .int .u8 (b[k].toNat : Int)] W fun e w' => e = .returned (.tuple #[]) ∧ PNext W w' P dv1 kv1 fv1 (stepP s1 b[k])))
        have c0 := HM.out.blk.cell 0
        simp only [psCells, Ps.take, hbg, List.getElem?_cons_zero, Bool.false_eq_true, if_true, if_false] at c0
        clear hbg
        go_upto_region 6 with fail
        go_region_with (first | (go_at_call 47; refine (HC.out _ (HT.out.below ((Below.refl _ _).drew)) (HM.out.below ((Below.refl _ _).drew))).mono ?_; rintro e w2 ⟨rfl, hN⟩) | fail)
        all_goals
          obtain ⟨dv2, kv2, fv2, hT2, hM2⟩ := hN
          have HT2 := Lib.hid ((HT.out.below ((Below.refl _ _).drew)).trans hT2)
          have HM2 := Lib.hid hM2
          clear hT2 hM2 HT HM
          go_wp2_with fail
          refine ⟨⟨k + 1, by omega, by go_num, dv2, kv2, fv2, HT2.out, ?_⟩, by simp [intOf]; omega⟩
          rw [feedP_take s b k hlt, ← HE.out]
          exact HM2.out
      · have HC := Lib.hid (fun (W : World) (hT2 : PTo w W P dv kv (.slice none 0 0) dv1 kv1 fv1) (hM2 : PM W P dv1 kv1 fv1 s1) => (by have := take_any P dv1 kv1 fv1 s1 b[k] W HS1.out.1 HS1.out.2 (HG.out.keep hT2.keep (fun i hi => HO.out i hi)) (hT2.own HO.out HG.out.lt) hM2; unfold Ps.fn at this; rw [hbg] at this; exact this : Calls Tryz.prog 87 #[.pointer (some ⟨P, 0, none⟩), .int .u8 (b[k].toNat : Int)] W fun e w' => e = .returned (.tuple #[]) ∧ PNext W w' P dv1 kv1 fv1 (stepP s1 b[k])))
        have c0 := HM.out.blk.cell 0
        simp only [psCells, Ps.take, hbg, List.getElem?_cons_zero, Bool.false_eq_true, if_true, if_false] at c0
        clear hbg
        go_upto_region 6 with fail
        go_region_with (first | (go_at_call 87; refine (HC.out _ (HT.out.below ((Below.refl _ _).drew)) (HM.out.below ((Below.refl _ _).drew))).mono ?_; rintro e w2 ⟨rfl, hN⟩) | fail)
        all_goals
          obtain ⟨dv2, kv2, fv2, hT2, hM2⟩ := hN
          have HT2 := Lib.hid ((HT.out.below ((Below.refl _ _).drew)).trans hT2)
          have HM2 := Lib.hid hM2
          clear hT2 hM2 HT HM
          go_wp2_with fail
          refine ⟨⟨k + 1, by omega, by go_num, dv2, kv2, fv2, HT2.out, ?_⟩, by simp [intOf]; omega⟩
          rw [feedP_take s b k hlt, ← HE.out]
          exact HM2.out
    · obtain rfl : k = b.size := by omega
      have e1 : b.data.toList.take b.size = b.data.toList := List.take_of_length_le (by simp)
      rw [e1] at hM
      clear e1 hlt hk HP
      have HT := Lib.hid hT; have HM := Lib.hid hM
      have c6 := hM.blk.cell 6; have f6 := hM.blk.free 6
      simp only [psCells, List.getElem?_cons_zero, List.getElem?_cons_succ] at c6
      clear hT hM
      go_wp2_with fail
      go_ret
      obtain ⟨a1, a2, a3, a4, a5, a6⟩ := HM.out.far
      have hK : Keep [P] wr (wr.setCell ⟨P, 6, none⟩ (.slice none 0 0)) := (Keep.refl _ _).setCell (.inl (by simp)) _
      have n : ∀ {v : Value}, Far (bv P) v → ∀ g, v.ownBlock = some g → g ∉ [P] := fun hf g hg hm => by
        simp at hm; subst hm; exact hf g rfl hg
      refine ⟨dv1, kv1, fv1, rfl, ⟨HT.out.keep.setCell (.inl (by simp)) _, HT.out.md, HT.out.mb, HT.out.mf⟩, q_keep HM.out.found hK (n a3), a3, a5, a6, ?_⟩
      exact PM.of (HM.out.blk.set 6 (.slice none 0 0)) (q_keep HM.out.data hK (n a1)) (q_keep HM.out.block hK (n a2)) (q_nil _ _ _ _) a1 a2 (fun _ _ h => by cases h) a4 (fun _ _ h => by cases h) (fun _ _ h => by cases h)
end
section
open Go.RowKit
set_option maxHeartbeats 4000000 in
set_option maxRecDepth 100000 in
theorem sClone_any (s : ByteArray) (w : World) (hs : s.size ≤ 1000000) : Calls Tryz.prog 109 #[.string s] w fun e w' => e = .returned (.string s) ∧ Below w.heap.size w w' := by
  by_cases h0 : s.size = 0
  · have he : s = ⟨#[]⟩ := by
      apply ByteArray.ext
      exact Array.eq_empty_of_size_eq_zero h0
    subst he
    go_enter Tryz.func109, Tryz.ntmps109
    go_wp2_with fail
    go_ret
    exact ⟨rfl, Below.refl _ _⟩
  · obtain ⟨i0, hi, hz0, hz1, hz2⟩ := info_parts info_u8
    have hinfo : (Tryz.prog.info? 5).map (·.size) = some 1 := by rw [hi]; simp [hz1]
    have hco : Tryz.prog.cellsOf 5 = 1 := by kernel_rfl
    obtain ⟨M, hM⟩ : ∃ M, M = madeCells (Value.int .u8 0).cells (((s.size : Nat) : Int).toNat * i0.size) := ⟨_, rfl⟩
    have hMs : M.size = s.size := by rw [hM, size_madeCells, hz1]; simp
    have hmk : ∀ W : World, (Instr.makeSlice 97 (.int .i64 (s.size : Int)) (.int .i64 (s.size : Int))).run Tryz.prog W = .ok (.slice (some ⟨W.heap.size, 0, none⟩) s.size s.size) (W.alloc (.cells M 5)) := fun W => by
      have h := run_make (P := Tryz.prog) W 97 5 i0 (.int .u8 0) Tryz.underlying97 hi hz0 .i64 .i64 (s.size : Int) (s.size : Int) (by omega) (by omega) (by rw [hz2]; omega) (by omega)
      rw [← hM] at h
      simpa using h
    clear hM
    have hcp := Lib.run_copy_row_string (P := Tryz.prog) (w.alloc (.cells M 5)) 97 9 3 5 w.heap.size 0 s.size s.size s M 5 Tryz.underlying97 hinfo (heap_alloc_new w _) (Nat.le_refl _) (by omega)
    obtain ⟨Y, hY⟩ : ∃ Y, Y = (M.toList.take 0 ++ Lib.byteCells s.data.toList ++ M.toList.drop (0 + s.size)).toArray := ⟨_, rfl⟩
    rw [← hY] at hcp
    have hYl : Y.toList = Lib.byteCells s.data.toList := by
      rw [hY, List.toList_toArray, List.take_zero, List.nil_append, List.drop_of_length_le (by rw [Array.length_toList]; omega), List.append_nil]
    have hYs : Y.size = s.size := by rw [← Array.length_toList, hYl, Lib.byteCells_length, ← Lib.size_eq]
    have hgY : ((w.alloc (.cells M 5)).setRow w.heap.size Y).heap[w.heap.size]? = some (.cells Y 5 (0, 0)) := setRow_heap _ _ M _ 5 (0, 0) (heap_alloc_new w _)
    have hne : s.data.toList ≠ [] := fun e => h0 (by rw [Lib.size_eq, e]; rfl)
    have hUS := Lib.run_unsafeString_row (P := Tryz.prog) ((w.alloc (.cells M 5)).setRow w.heap.size Y) 172 3 9 5 Tryz.underlying172 hco w.heap.size Y.size (by unfold World.shape?; rw [hgY]) s.data.toList hne (by rw [← Lib.size_eq]; omega) (by rw [← Lib.size_eq]; omega)
      (fun j x hx => Lib.cells_of_row hgY Y.size j _ (by rw [List.take_of_length_le (by rw [Array.length_toList]; exact Nat.le_refl _), hYl]; simp [Lib.byteCells, hx]))
    rw [← Lib.size_eq] at hUS
    have hb1 : Below w.heap.size w (w.alloc (.cells M 5)) := (Below.refl _ w).alloc (Nat.le_refl _) _
    have hb2 : Below w.heap.size (w.alloc (.cells M 5)) ((w.alloc (.cells M 5)).setRow w.heap.size Y) := ⟨rfl, rfl, rfl, by simp, fun k hk => setRow_other _ _ _ _ (by omega)⟩
    have HB := Lib.hid (hb1.trans hb2)
    clear hY hYl hgY hb1 hb2 hMs hYs
    have hp : 0 < s.size := by omega
    go_enter Tryz.func109, Tryz.ntmps109
    go_wp2_with fail
    go_ret
    exact ⟨rfl, Lib.below_freeze HB.out (p := ⟨w.heap.size, 0, none⟩) (Nat.le_refl _) _⟩
set_option maxHeartbeats 1000000 in
set_option maxRecDepth 100000 in
theorem Clone_any (s : ByteArray) (w : World) (hs : s.size ≤ 1000000) : Calls Tryz.prog 97 #[.string s] w fun e w' => e = .returned (.string s) ∧ Below w.heap.size w w' := by
  go_enter Tryz.func97, Tryz.ntmps97
  go_wp2_with fail
  refine (sClone_any s _ hs).mono ?_
  rintro e w1 ⟨rfl, hL1⟩
  have HL1 := Lib.hid hL1; clear hL1
  go_wp2_with fail
  go_ret
  exact ⟨rfl, HL1.out⟩
end
section
open Go.RowKit
def pieceV (w : Bool) (m : ByteArray) (b : Bool) : Value := .agg #[.bool w, .string m, .int .i64 0, .bool b]
def pieceC (w : Bool) (m : ByteArray) (b : Bool) : List Value := [.bool w, .string m, .int .i64 0, .bool b]
theorem row_ne {w : World} {base a : Nat} {v : Value} {xs : List UInt8} {cs : List Value} (hR : Row w base v xs) (hB : Blk w a cs 112) : ∀ g, v.ownBlock = some g → g ∉ [a] := by
  intro g hg
  rcases hR with ⟨rfl, _⟩ | ⟨g', cap, cur, fr, rfl, hb, hh, _⟩
  · cases hg
  · have e : g' = g := by injection hg
    subst e
    simp only [List.mem_singleton]
    intro e2
    subst e2
    rw [hB] at hh
    injection hh with hh
    injection hh with _ h2
    exact absurd h2 (by decide)
attribute [local go_sem] run_bytes bytes_size
end
end Go.Proofs.YtgopighmifpefaaGreatDoor
