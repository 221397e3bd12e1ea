/- What is proved here: a part of the proof of TopLink (texts Fo12). No condition. -/
import Derived.Test.YtgopighmifpefaaGreatDoorPart06
set_option linter.unusedVariables false
set_option linter.unusedSimpArgs false
namespace Go.Proofs.YtgopighmifpefaaGreatDoor
section
open Go.RowKit
section
section
variable (s : Fs) (g : Nat) (S : List Nat) (w : World)
set_option maxHeartbeats 4000000 in
set_option maxRecDepth 100000 in
theorem Next_marked (j : Nat) (hj : j < s.sent.length) (hm : s.sent[j].mark = true) (hm0 : ∀ k, (h : k < j) → (s.sent[k]'(by omega)).mark = false) (hb0 : 0 ≤ s.base) (hb1 : s.base ≤ 255) (hn : s.sent.length ≤ 127) (hSl : ∀ i ∈ S, i < w.heap.size) (hdue : s.due = false) (hsp : s.susp = false) (hbp : s.byp = []) (hs : s.service = 2) (hh : s.held = false) (hw : s.window ≠ 0) (h : FopIn w g S s) :
    Calls Tryz.prog 33 #[.pointer (some ⟨g, 0, none⟩)] w fun e w' => e = .returned (.tuple #[.agg #[.int .i64 s.craft, .int .i64 s.chan, .bool false, .bool false, .int .i64 ((s.base + j) % 256), .string s.sent[j].data], .bool true]) ∧ FopTo w w' g S { s with sent := s.sent.set j ⟨s.sent[j].id, s.sent[j].data, false⟩ } := by
  have HW0 := Lib.hid (show (s.window == 0) = false by simpa using hw)
  have HT := Lib.hid ((Pt.refl h).keepB ((Below.refl w.heap.size w).alloc (Nat.le_refl _) (Obj.cells #[.int .i64 0, .int .i64 0, .bool false, .bool false, .int .i64 0, .string ⟨#[]⟩] 37)))
  have HR := Lib.hid (Blk.new w [.int .i64 0, .int .i64 0, .bool false, .bool false, .int .i64 0, .string ⟨#[]⟩] 37)
  have HSL := Lib.hid hSl
  have k1 : ¬ (0 : Int) < (s.byp.length : Int) := by simp [hbp]
  have k2 : (s.service != 2) = false := by simpa using hs
  clear h hw hSl hbp hs
  go_enter Tryz.func33, Tryz.ntmps33
  go_upto_region 1 with fail
  refine gen_world (fun W => Pt w W g S S s ∧ Blk W w.heap.size [.int .i64 0, .int .i64 0, .bool false, .bool false, .int .i64 0, .string ⟨#[]⟩] 37 ∧ ∀ i ∈ S, i < W.heap.size) ⟨HT.out, HR.out, fun i hi => by have := HSL.out i hi; simp; omega⟩ ?_
  clear HT HR
  rintro w1 ⟨hT, hR, hl⟩
  have HT := Lib.hid hT; have HR := Lib.hid hR; have HL1 := Lib.hid hl; clear hT hR hl
  go_wp2_with fail
  refine (foNone_in s g S _ false HW0.out HT.out.in_).mono ?_
  rintro e _ ⟨rfl, rfl⟩
  obtain ⟨ve, vw, vs, vb, hF, hS⟩ := HT.out.in_
  have HF := Lib.hid hF; have HS := Lib.hid hS; have HB := Lib.hid hF.blk; clear hF hS
  have c16 := HB.out.cell 16
  have c6 := HB.out.cell 6
  have c18 := HB.out.cell 18
  have c19 := HB.out.cell 19
  have c9 := HB.out.cell 9
  have c14 := HB.out.cell 14
  simp only [Fs.cells, List.getElem?_cons_zero, List.getElem?_cons_succ] at c16 c6 c18 c19 c9 c14
  rw [hdue] at c16
  rw [hsp] at c19
  rw [hh] at c18
  obtain ⟨sa, cs, hvs⟩ := qform HF.out.se
  subst hvs
  clear hdue hsp hh
  go_wp2_with fail
  refine (lenB_in s g S _ HT.out.in_).mono ?_
  rintro e _ ⟨rfl, rfl⟩
  go_wp2_with fail
  clear c16 c6 c18 c19
  obtain ⟨q, off, cap, hve, -, hqw, hcap, hcl, hfr⟩ := q_cells HF.out.se (by omega)
  injection hve with e1 e2 e3
  clear e2
  subst e1 e3
  have HCL := Lib.hid hcl
  have HM0 := Lib.hid hm0
  have HMJ := Lib.hid hm
  clear hcl hm0 hm
  go_loop [101] (fun iv => ∃ k : Nat, k ≤ j ∧ iv = .int .i64 k) (fun iv => s.sent.length - (intOf iv).toNat)
  case atStart => exact ⟨0, Nat.zero_le _, rfl⟩
  case round =>
    obtain ⟨k, hk, rfl⟩ := hrel
    by_cases hlt : k < j
    · have d2 := HCL.out _ _ (utRow_at s.sent k (by omega)).2.2
      rw [HM0.out k hlt, ← Nat.add_assoc] at d2
      have k3 : k < s.sent.length := by omega
      go_wp2_with fail
      go_round
      case rel => exact ⟨k + 1, by omega, by go_num⟩
      case measure => simp [intOf]; omega
    · obtain rfl : k = j := by omega
      have d2 := HCL.out _ _ (utRow_at s.sent k hj).2.2
      rw [HMJ.out, ← Nat.add_assoc] at d2
      have f2 := hfr (off + k * 3 + 2)
      have HP := Lib.hid (HT.out.mark HF.out HS.out k hj false)
      have hgq : w.heap.size ≠ q := fun e => by have := HSL.out q (HS.out q (mem_own.2 (.inr (.inr (.inr (.inl rfl)))))); omega
      have hw1 : IntKind.i64.wrap (s.base + (k : Int)) = s.base + (k : Int) := IntWalk.i64_in _ (by omega)
      go_upto_region 21 with fail
      refine gen_world (fun W => (Pt w W g S S { s with sent := s.sent.set k ⟨s.sent[k].id, s.sent[k].data, false⟩ } ∧ FopAt W g { s with sent := s.sent.set k ⟨s.sent[k].id, s.sent[k].data, false⟩ } ve vw (.slice (some ⟨q, off, none⟩) s.sent.length cs) vb) ∧ Blk W w.heap.size [.int .i64 0, .int .i64 0, .bool false, .bool false, .int .i64 0, .string ⟨#[]⟩] 37 ∧ ∀ i ∈ S, i < W.heap.size) ⟨HP.out, HR.out.set_far hgq _, fun i hi => by have := HL1.out i hi; simp; omega⟩ ?_
      clear HP HT HF HS HB HR c9 c14 d2 f2 hfr HCL HM0 HMJ HL1
      rintro v ⟨⟨hT, hF⟩, hR, hl⟩
      have c9 := hF.blk.cell 9
      simp only [Fs.cells, List.getElem?_cons_zero, List.getElem?_cons_succ] at c9
      obtain ⟨q2, off2, cap2, hve, -, hqw2, hcap2, hcl, hfr⟩ := q_cells hF.se (show 0 < (s.sent.set k ⟨s.sent[k].id, s.sent[k].data, false⟩).length by simp; omega)
      injection hve with e1 e2 e3
      injection e1 with e1
      injection e1 with e1 e4
      clear e2
      subst e1 e4
      have d1 := hcl _ _ (utRow_at (s.sent.set k ⟨s.sent[k].id, s.sent[k].data, false⟩) k (by simp; omega)).2.1
      rw [List.getElem_set_self, ← Nat.add_assoc] at d1
      simp only at d1
      have HT := Lib.hid hT; have HR := Lib.hid hR; have HLS := Lib.hid hl
      have hgr : w.heap.size ≠ g := by
        intro e
        have := HSL.out g (by obtain ⟨_, _, _, _, h1, h2⟩ := hT.in_; exact h2 _ own_g)
        omega
      have HD := Lib.hid hF.blk.lt
      clear hT hF hR hl hcl hfr hcap2 hcap
      obtain ⟨d, hd⟩ : ∃ d, d = s.sent[k].data := ⟨_, rfl⟩
      rw [← hd] at d1
      obtain ⟨s2, hs2⟩ : ∃ s2, s2 = { s with sent := s.sent.set k ⟨s.sent[k].id, s.sent[k].data, false⟩ } := ⟨_, rfl⟩
      have hs2c : s2.craft = s.craft ∧ s2.chan = s.chan := by rw [hs2]; exact ⟨rfl, rfl⟩
      rw [← hd] at hs2
      rw [← hd, ← hs2] at HT
      have HD2 := Lib.hid hd; have HS2 := Lib.hid hs2
      clear hd hs2
      have HC2 := Lib.hid hs2c; clear hs2c
      refine region_end (fun W => W.cell? ⟨g, 9, none⟩ = some (.int .i64 s.base) ∧ W.cell? ⟨q, off + k * 3 + 1, none⟩ = some (.string d)) 13 (by kernel_rfl) ⟨c9, d1⟩ (fun hInv hHeld => ?_)
      refine WpEnd.take (i := 0) (some 118) (v := ?_) rfl rfl (by kernel_rfl) (by kernel_rfl) (by kernel_rfl) (fun _ _ _ h => h) (by kernel_rfl) hInv (by assumption) (by rfl) ?_ (fun hInv => ?_)
      rotate_left
      · (intro w hSw; (try dsimp only at hSw); go_simp; (try with_reducible rfl))
      simp only [Act.put, List.setIfInBounds_toArray, List.set_cons_zero, List.set_cons_succ]
      refine WpEnd.take (i := 1) (some 119) (v := ?_) rfl rfl (by kernel_rfl) (by kernel_rfl) (by kernel_rfl) (fun _ _ _ h => h) (by kernel_rfl) hInv (by assumption) (by rfl) ?_ (fun hInv => ?_)
      rotate_left
      · (intro w hSw; (try dsimp only at hSw); go_simp; (try with_reducible rfl))
      simp only [Act.put, List.setIfInBounds_toArray, List.set_cons_zero, List.set_cons_succ]
      refine WpEnd.take (i := 2) (some 120) (v := ?_) rfl rfl (by kernel_rfl) (by kernel_rfl) (by kernel_rfl) (fun _ _ _ h => h) (by kernel_rfl) hInv (by assumption) (by rfl) ?_ (fun hInv => ?_)
      rotate_left
      · (intro w hSw; (try dsimp only at hSw); go_simp; (try with_reducible rfl))
      simp only [Act.put, List.setIfInBounds_toArray, List.set_cons_zero, List.set_cons_succ]
      refine WpEnd.take (i := 3) (some 121) (v := ?_) rfl rfl (by kernel_rfl) (by kernel_rfl) (by kernel_rfl) (fun _ _ _ h => h) (by kernel_rfl) hInv (by assumption) (by rfl) ?_ (fun hInv => ?_)
      rotate_left
      · (intro w hSw; (try dsimp only at hSw); go_simp; (try with_reducible rfl))
      simp only [Act.put, List.setIfInBounds_toArray, List.set_cons_zero, List.set_cons_succ]
      refine WpEnd.take (i := 4) (some 122) (v := ?_) rfl rfl (by kernel_rfl) (by kernel_rfl) (by kernel_rfl) (fun _ _ _ h => h) (by kernel_rfl) hInv (by assumption) (by rfl) ?_ (fun hInv => ?_)
      rotate_left
      · (intro w hSw; (try dsimp only at hSw); go_simp; (try with_reducible rfl))
      simp only [Act.put, List.setIfInBounds_toArray, List.set_cons_zero, List.set_cons_succ]
      refine WpEnd.take (i := 5) (some 123) (v := ?_) rfl rfl (by kernel_rfl) (by kernel_rfl) (by kernel_rfl) (fun _ _ _ h => h) (by kernel_rfl) hInv (by assumption) (by rfl) ?_ (fun hInv => ?_)
      rotate_left
      · (intro w hSw; (try dsimp only at hSw); go_simp; (try with_reducible rfl))
      simp only [Act.put, List.setIfInBounds_toArray, List.set_cons_zero, List.set_cons_succ]
      refine WpEnd.take (i := 6) (some 124) (v := ?_) rfl rfl (by kernel_rfl) (by kernel_rfl) (by kernel_rfl) (fun _ _ _ h => h) (by kernel_rfl) hInv (by assumption) (by rfl) ?_ (fun hInv => ?_)
      rotate_left
      · (intro w hSw; (try dsimp only at hSw); go_simp; (try with_reducible rfl))
      simp only [Act.put, List.setIfInBounds_toArray, List.set_cons_zero, List.set_cons_succ]
      refine WpEnd.take (i := 7) (some 125) (v := ?_) rfl rfl (by kernel_rfl) (by kernel_rfl) (by kernel_rfl) (fun _ _ _ h => h) (by kernel_rfl) hInv (by assumption) (by rfl) ?_ (fun hInv => ?_)
      rotate_left
      · (intro w hSw; (try dsimp only at hSw); go_simp; (try with_reducible rfl))
      simp only [Act.put, List.setIfInBounds_toArray, List.set_cons_zero, List.set_cons_succ]
      refine WpEnd.take (i := 8) (some 126) (v := ?_) rfl rfl (by kernel_rfl) (by kernel_rfl) (by kernel_rfl) (fun _ _ _ h => h) (by kernel_rfl) hInv (by assumption) (by rfl) ?_ (fun hInv => ?_)
      rotate_left
      · (intro w hSw; (try dsimp only at hSw); go_simp; (try with_reducible rfl))
      simp only [Act.put, List.setIfInBounds_toArray, List.set_cons_zero, List.set_cons_succ]
      refine WpEnd.take (i := 9) (some 127) (v := ?_) rfl rfl (by kernel_rfl) (by kernel_rfl) (by kernel_rfl) (fun _ _ _ h => h) (by kernel_rfl) hInv (by assumption) (by rfl) ?_ (fun hInv => ?_)
      rotate_left
      · (intro w hSw; (try dsimp only at hSw); go_simp; (try with_reducible rfl))
      simp only [Act.put, List.setIfInBounds_toArray, List.set_cons_zero, List.set_cons_succ]
      refine WpEnd.take (i := 10) (some 128) (v := ?_) rfl rfl (by kernel_rfl) (by kernel_rfl) (by kernel_rfl) (fun _ _ _ h => h) (by kernel_rfl) hInv (by assumption) (by rfl) ?_ (fun hInv => ?_)
      rotate_left
      · (intro w hSw; (try dsimp only at hSw); go_simp; (try with_reducible rfl))
      simp only [Act.put, List.setIfInBounds_toArray, List.set_cons_zero, List.set_cons_succ]
      refine WpEnd.ready (rs := [11]) (by kernel_rfl) (by simp) ?_
      refine EachEnd.cons (some 129) rfl rfl (by decide) (by kernel_rfl) hInv (fun K hKK hKB => ?_) EachEnd.nil
      refine step_call rfl 55 #[.tmp 118, .tmp 124, .tmp 128] _ rfl #[.pointer (some ⟨g, 0, none⟩), .int .i64 (s.base + (k : Int)), .string d] (by kernel_rfl) (fun x W => x = .agg #[.int .i64 s2.craft, .int .i64 s2.chan, .bool false, .bool false, .int .i64 ((s.base + (k : Int)) % 256), .string d] ∧ Below v.drew.heap.size v.drew W) ((frame_in (s.base + (k : Int)) d s2 g S v.drew (by omega) (by omega) HT.out.drew.in_).mono fun e W h => ⟨_, h.1, rfl, h.2⟩) ?_
      rintro x w3 ⟨rfl, hL3⟩
      have c9' := (hL3.cell (p := ⟨g, 9, none⟩) HD.out).trans hHeld.1
      have d1' := (hL3.cell (p := ⟨q, off + k * 3 + 1, none⟩) hqw2).trans hHeld.2
      have HR3 := Lib.hid (HR.out.drew.below hL3 HR.out.lt)
      have HT3 := Lib.hid (HT.out.drew.keepB hL3)
      clear hL3
      refine hKK.out _ _ ⟨c9', d1'⟩ (fun hInv hHeld => ?_)
      clear hKK hKB K
      simp only [Act.put, List.setIfInBounds_toArray, List.set_cons_zero, List.set_cons_succ]
      refine WpEnd.ready (rs := [12]) (by kernel_rfl) (by simp) ?_
      refine EachEnd.cons none rfl rfl (by decide) (by kernel_rfl) hInv (fun K hKK hKB => ?_) EachEnd.nil
      refine step_store_blk rfl 37 (.tmp 2) (.tmp 129) rfl w.heap.size 37 _ [.int .i64 s2.craft, .int .i64 s2.chan, .bool false, .bool false, .int .i64 ((s.base + (k : Int)) % 256), .string d] rfl rfl HR3.out rfl (by kernel_rfl) (by kernel_rfl) ?_
      intro w4 hR4 hK4
      have c9'' := (hK4.cell (p := ⟨g, 9, none⟩) (by have := HT3.out; have := (HT3.out.in_); obtain ⟨_, _, _, _, h1, _⟩ := this; exact h1.blk.lt) (by simp; omega)).trans c9'
      have d1'' := (hK4.cell (p := ⟨q, off + k * 3 + 1, none⟩) (World.block_lt_of_cell? _ _ d1') (by simp; omega)).trans d1'
      refine hKK.out _ _ ⟨c9'', d1''⟩ (fun hInv hHeld => ?_)
      clear hKK hKB K
      simp only [Act.put, List.setIfInBounds_toArray, List.set_cons_zero, List.set_cons_succ]
      refine WpEnd.ready (rs := [13]) (by kernel_rfl) (by simp) ?_
      refine EachEnd.last rfl (fun K hKK => ?_)
      go_simp
      refine hKK.out _ _ ?_
      clear hKK K
      refine WpEnd.done (by kernel_rfl) ?_ _
      have HT4 := Lib.hid (HT3.out.far hK4 (fun i hi => by simp at hi; subst hi; exact Nat.le_refl _) (fun i hi _ h => by simp at h; subst h; have := HSL.out _ hi; omega))
      clear hK4 c9'' d1'' c9' d1' hHeld c9 d1
      go_wp2_with fail
      refine ret_cell_tmp rfl w.heap.size 37 [.int .i64 s2.craft, .int .i64 s2.chan, .bool false, .bool false, .int .i64 ((s.base + (k : Int)) % 256), .string d] rfl hR4 Tryz.underlying37 rfl (by kernel_rfl) rfl ?_
      have hT4 := HT4.out.to
      rw [HS2.out, HD2.out] at hT4
      refine ⟨?_, hT4⟩
      rw [HC2.out.1, HC2.out.2, ← HD2.out]
      rfl
end
end
section
section
variable (s : Fs) (g : Nat) (S : List Nat) (w : World)
set_option maxHeartbeats 4000000 in
set_option maxRecDepth 100000 in
theorem Next_full (hm0 : ∀ k, (h : k < s.sent.length) → s.sent[k].mark = false) (hn : s.sent.length ≤ 127) (hSl : ∀ i ∈ S, i < w.heap.size) (hdue : s.due = false) (hsp : s.susp = false) (hbp : s.byp = []) (hs : s.service = 2) (hh : s.held = false) (hf : s.window ≤ (s.sent.length : Int) ∨ s.waiting = []) (hw : s.window ≠ 0) (h : FopIn w g S s) :
    Calls Tryz.prog 33 #[.pointer (some ⟨g, 0, none⟩)] w fun e w' => e = .returned (.tuple #[.agg #[.int .i64 0, .int .i64 0, .bool false, .bool false, .int .i64 0, .string ⟨#[]⟩], .bool false]) ∧ FopTo w w' g S s := by
  have HQ := Lib.hid hf; clear hf
  have HW0 := Lib.hid (show (s.window == 0) = false by simpa using hw)
  have HT := Lib.hid ((Pt.refl h).keepB ((Below.refl w.heap.size w).alloc (Nat.le_refl _) (Obj.cells #[.int .i64 0, .int .i64 0, .bool false, .bool false, .int .i64 0, .string ⟨#[]⟩] 37)))
  have HR := Lib.hid (Blk.new w [.int .i64 0, .int .i64 0, .bool false, .bool false, .int .i64 0, .string ⟨#[]⟩] 37)
  have HSL := Lib.hid hSl
  have k1 : ¬ (0 : Int) < (s.byp.length : Int) := by simp [hbp]
  have k2 : (s.service != 2) = false := by simpa using hs
  clear h hw hSl hbp hs
  go_enter Tryz.func33, Tryz.ntmps33
  go_upto_region 1 with fail
  refine gen_world (fun W => Pt w W g S S s ∧ Blk W w.heap.size [.int .i64 0, .int .i64 0, .bool false, .bool false, .int .i64 0, .string ⟨#[]⟩] 37 ∧ ∀ i ∈ S, i < W.heap.size) ⟨HT.out, HR.out, fun i hi => by have := HSL.out i hi; simp; omega⟩ ?_
  clear HT HR
  rintro w1 ⟨hT, hR, hl⟩
  have HT := Lib.hid hT; have HR := Lib.hid hR; have HL1 := Lib.hid hl; clear hT hR hl
  go_wp2_with fail
  refine (foNone_in s g S _ false HW0.out HT.out.in_).mono ?_
  rintro e _ ⟨rfl, rfl⟩
  obtain ⟨ve, vw, vs, vb, hF, hS⟩ := HT.out.in_
  have HF := Lib.hid hF; have HS := Lib.hid hS; have HB := Lib.hid hF.blk; clear hF hS
  have c16 := HB.out.cell 16
  have c6 := HB.out.cell 6
  have c18 := HB.out.cell 18
  have c19 := HB.out.cell 19
  have c9 := HB.out.cell 9
  have c14 := HB.out.cell 14
  simp only [Fs.cells, List.getElem?_cons_zero, List.getElem?_cons_succ] at c16 c6 c18 c19 c9 c14
  rw [hdue] at c16
  rw [hsp] at c19
  rw [hh] at c18
  obtain ⟨sa, cs, hvs⟩ := qform HF.out.se
  subst hvs
  clear hdue hsp hh
  go_wp2_with fail
  refine (lenB_in s g S _ HT.out.in_).mono ?_
  rintro e _ ⟨rfl, rfl⟩
  go_wp2_with fail
  clear c16 c6 c18 c19
  have HM0 := Lib.hid hm0
  clear hm0
  go_loop [101] (fun iv => ∃ k : Nat, k ≤ s.sent.length ∧ iv = .int .i64 k) (fun iv => s.sent.length - (intOf iv).toNat)
  case atStart => exact ⟨0, Nat.zero_le _, rfl⟩
  case round =>
    obtain ⟨k, hk, rfl⟩ := hrel
    by_cases hlt : k < s.sent.length
    · obtain ⟨q, off, cap, hve, -, hqw, hcap, hcl, hfr⟩ := q_cells HF.out.se (by omega)
      injection hve with e1 e2 e3
      clear e2
      subst e1 e3
      have d2 := hcl _ _ (utRow_at s.sent k (by omega)).2.2
      rw [HM0.out k hlt, ← Nat.add_assoc] at d2
      clear hcl hfr hcap
      go_wp2_with fail
      go_round
      case rel => exact ⟨k + 1, by omega, by go_num⟩
      case measure => simp [intOf]; omega
    · obtain rfl : k = s.sent.length := by omega
      clear HM0 hlt
      by_cases hfull : s.window ≤ (s.sent.length : Int)
      · have k5 : decide (s.window ≤ (s.sent.length : Int)) = true := by simpa using hfull
        go_upto_region 23 with fail
        have c3 := HB.out.cell 3
        simp only [Fs.cells, List.getElem?_cons_zero, List.getElem?_cons_succ] at c3
        go_quiet ((first | (go_at_call_of 26 (Value.pointer (some ⟨g, 14, none⟩)); exact quiet_lft (lenS_in s g S _ (HT.out.drewN _).in_)) | (go_at_call_of 26 (Value.pointer (some ⟨g, 13, none⟩)); exact quiet_lft (lenW_in s g S _ (HT.out.drewN _).in_))))
        refine post_any (fun W => Pt w W g S S s ∧ Blk W w.heap.size [.int .i64 0, .int .i64 0, .bool false, .bool false, .int .i64 0, .string ⟨#[]⟩] 37) ⟨HT.out.drewN _, HR.out.drewN _⟩ ?_
        clear HT HR HF HS HB c3 c9 c14
        rintro w2 ⟨hT, hR⟩
        have HT := Lib.hid hT; have HR := Lib.hid hR; clear hT hR
        go_wp2_with (refine store_blk rfl _ _ _ rfl w.heap.size 37 _ [.int .i64 0, .int .i64 0, .bool false, .bool false, .int .i64 0, .string ⟨#[]⟩] rfl rfl HR.out rfl (by kernel_rfl) (by kernel_rfl) ?_)
        intro w9 hR9 hK9
        go_wp2_with fail
        refine ret_cell_tmp rfl w.heap.size 37 [.int .i64 0, .int .i64 0, .bool false, .bool false, .int .i64 0, .string ⟨#[]⟩] rfl hR9 Tryz.underlying37 rfl (by kernel_rfl) rfl ?_
        exact ⟨rfl, (HT.out.far hK9 (fun i hi => by simp at hi; subst hi; exact Nat.le_refl _) (fun i hi _ h => by simp at h; have := HSL.out i hi; omega)).to⟩
      · have k5 : decide (s.window ≤ (s.sent.length : Int)) = false := by simpa using hfull
        have hwt : s.waiting = [] := by
          rcases HQ.out with h | h
          · exact absurd h hfull
          · exact h
        have k6 : ((s.waiting.length : Int) == 0) = true := by simp [hwt]
        clear hwt
        go_upto_region 23 with fail
        have c3 := HB.out.cell 3
        simp only [Fs.cells, List.getElem?_cons_zero, List.getElem?_cons_succ] at c3
        go_quiet ((first | (go_at_call_of 26 (Value.pointer (some ⟨g, 14, none⟩)); exact quiet_lft (lenS_in s g S _ (HT.out.drewN _).in_)) | (go_at_call_of 26 (Value.pointer (some ⟨g, 13, none⟩)); exact quiet_lft (lenW_in s g S _ (HT.out.drewN _).in_))))
        refine post_any (fun W => Pt w W g S S s ∧ Blk W w.heap.size [.int .i64 0, .int .i64 0, .bool false, .bool false, .int .i64 0, .string ⟨#[]⟩] 37) ⟨HT.out.drewN _, HR.out.drewN _⟩ ?_
        clear HT HR HF HS HB c3 c9 c14
        rintro w2 ⟨hT, hR⟩
        have HT := Lib.hid hT; have HR := Lib.hid hR; clear hT hR
        go_wp2_with (refine store_blk rfl _ _ _ rfl w.heap.size 37 _ [.int .i64 0, .int .i64 0, .bool false, .bool false, .int .i64 0, .string ⟨#[]⟩] rfl rfl HR.out rfl (by kernel_rfl) (by kernel_rfl) ?_)
        intro w9 hR9 hK9
        go_wp2_with fail
        refine ret_cell_tmp rfl w.heap.size 37 [.int .i64 0, .int .i64 0, .bool false, .bool false, .int .i64 0, .string ⟨#[]⟩] rfl hR9 Tryz.underlying37 rfl (by kernel_rfl) rfl ?_
        exact ⟨rfl, (HT.out.far hK9 (fun i hi => by simp at hi; subst hi; exact Nat.le_refl _) (fun i hi _ h => by simp at h; have := HSL.out i hi; omega)).to⟩
def newSent (s : Fs) (u : Ut) (l : List Ut) : Fs := { (if s.sent.length = 0 then { s with tries := 1, clock := s.timeout } else s : Fs) with waiting := l, sent := s.sent ++ [u] }
set_option maxHeartbeats 4000000 in
set_option maxRecDepth 100000 in
theorem Next_new (u : Ut) (l : List Ut) (hwt : s.waiting = u :: l) (hl : l.length ≤ 1000000) (hb0 : 0 ≤ s.base) (hb1 : s.base ≤ 255) (hm0 : ∀ k, (h : k < s.sent.length) → s.sent[k].mark = false) (hn : s.sent.length ≤ 127) (hSl : ∀ i ∈ S, i < w.heap.size) (hdue : s.due = false) (hsp : s.susp = false) (hbp : s.byp = []) (hs : s.service = 2) (hh : s.held = false) (hf : (s.sent.length : Int) < s.window) (hw : s.window ≠ 0) (h : FopIn w g S s) :
    Calls Tryz.prog 33 #[.pointer (some ⟨g, 0, none⟩)] w fun e w' => e = .returned (.tuple #[.agg #[.int .i64 s.craft, .int .i64 s.chan, .bool false, .bool false, .int .i64 ((s.base + (s.sent.length : Int)) % 256), .string u.data], .bool true]) ∧ FopTo w w' g S (newSent s u l) := by
  have k5 : decide (s.window ≤ (s.sent.length : Int)) = false := by simp; omega
  have k6 : ((s.waiting.length : Int) == 0) = false := by rw [hwt]; simp only [List.length_cons, beq_eq_false_iff_ne, ne_eq]; omega
  have hn2 : s.sent.length ≤ 1000000 := by omega
  have HWT := Lib.hid hwt; clear hwt
  have HW0 := Lib.hid (show (s.window == 0) = false by simpa using hw)
  have HT := Lib.hid ((Pt.refl h).keepB ((Below.refl w.heap.size w).alloc (Nat.le_refl _) (Obj.cells #[.int .i64 0, .int .i64 0, .bool false, .bool false, .int .i64 0, .string ⟨#[]⟩] 37)))
  have HR := Lib.hid (Blk.new w [.int .i64 0, .int .i64 0, .bool false, .bool false, .int .i64 0, .string ⟨#[]⟩] 37)
  have HSL := Lib.hid hSl
  have k1 : ¬ (0 : Int) < (s.byp.length : Int) := by simp [hbp]
  have k2 : (s.service != 2) = false := by simpa using hs
  clear h hw hSl hbp hs
  go_enter Tryz.func33, Tryz.ntmps33
  go_upto_region 1 with fail
  refine gen_world (fun W => Pt w W g S S s ∧ Blk W w.heap.size [.int .i64 0, .int .i64 0, .bool false, .bool false, .int .i64 0, .string ⟨#[]⟩] 37 ∧ ∀ i ∈ S, i < W.heap.size) ⟨HT.out, HR.out, fun i hi => by have := HSL.out i hi; simp; omega⟩ ?_
  clear HT HR
  rintro w1 ⟨hT, hR, hl⟩
  have HT := Lib.hid hT; have HR := Lib.hid hR; have HL1 := Lib.hid hl; clear hT hR hl
  go_wp2_with fail
  refine (foNone_in s g S _ false HW0.out HT.out.in_).mono ?_
  rintro e _ ⟨rfl, rfl⟩
  obtain ⟨ve, vw, vs, vb, hF, hS⟩ := HT.out.in_
  have HF := Lib.hid hF; have HS := Lib.hid hS; have HB := Lib.hid hF.blk; clear hF hS
  have c16 := HB.out.cell 16
  have c6 := HB.out.cell 6
  have c18 := HB.out.cell 18
  have c19 := HB.out.cell 19
  have c9 := HB.out.cell 9
  have c14 := HB.out.cell 14
  simp only [Fs.cells, List.getElem?_cons_zero, List.getElem?_cons_succ] at c16 c6 c18 c19 c9 c14
  rw [hdue] at c16
  rw [hsp] at c19
  rw [hh] at c18
  obtain ⟨sa, cs, hvs⟩ := qform HF.out.se
  subst hvs
  clear hdue hsp hh
  go_wp2_with fail
  refine (lenB_in s g S _ HT.out.in_).mono ?_
  rintro e _ ⟨rfl, rfl⟩
  go_wp2_with fail
  clear c16 c6 c18 c19
  have HM0 := Lib.hid hm0
  clear hm0
  go_loop [101] (fun iv => ∃ k : Nat, k ≤ s.sent.length ∧ iv = .int .i64 k) (fun iv => s.sent.length - (intOf iv).toNat)
  case atStart => exact ⟨0, Nat.zero_le _, rfl⟩
  case round =>
    obtain ⟨k, hk, rfl⟩ := hrel
    by_cases hlt : k < s.sent.length
    · obtain ⟨q, off, cap, hve, -, hqw, hcap, hcl, hfr⟩ := q_cells HF.out.se (by omega)
      injection hve with e1 e2 e3
      clear e2
      subst e1 e3
      have d2 := hcl _ _ (utRow_at s.sent k (by omega)).2.2
      rw [HM0.out k hlt, ← Nat.add_assoc] at d2
      clear hcl hfr hcap
      go_wp2_with fail
      go_round
      case rel => exact ⟨k + 1, by omega, by go_num⟩
      case measure => simp [intOf]; omega
    · obtain rfl : k = s.sent.length := by omega
      clear HM0 hlt
      go_upto_region 23 with fail
      have c3 := HB.out.cell 3
      simp only [Fs.cells, List.getElem?_cons_zero, List.getElem?_cons_succ] at c3
      go_quiet ((first | (go_at_call_of 26 (Value.pointer (some ⟨g, 14, none⟩)); exact quiet_lft (lenS_in s g S _ (HT.out.drewN _).in_)) | (go_at_call_of 26 (Value.pointer (some ⟨g, 13, none⟩)); exact quiet_lft (lenW_in s g S _ (HT.out.drewN _).in_))))
      refine post_any (fun W => Pt w W g S S s ∧ Blk W w.heap.size [.int .i64 0, .int .i64 0, .bool false, .bool false, .int .i64 0, .string ⟨#[]⟩] 37) ⟨HT.out.drewN _, HR.out.drewN _⟩ ?_
      clear HT HR HF HS HB c3 c9 c14
      rintro w2 ⟨hT, hR⟩
      have HT := Lib.hid hT; have HR := Lib.hid hR; clear hT hR
      have HN0 := Lib.hid (fun (h : w.heap.size ∈ S) => (by have := HSL.out _ h; omega : False))
      by_cases hz : s.sent.length = 0
      · have k7 : ((s.sent.length : Int) == 0) = true := by simp [hz]
        have HNS := Lib.hid (show newSent s u l = { ({ s with tries := 1, clock := s.timeout } : Fs) with waiting := l, sent := s.sent ++ [u] } by unfold newSent; rw [if_pos hz])
        clear hz
        go_wp2_with fail
        refine (lenS_in s g S _ HT.out.in_).mono ?_
        rintro e _ ⟨rfl, rfl⟩
        go_wp2_with fail
        refine (again_in s g S _ HT.out.in_).mono ?_
        rintro e w3 ⟨rfl, hT⟩
        have hR1 := HR.out.lt
        replace HR := Lib.hid (HR.out.in_keep HN0.out hT)
        obtain ⟨S1, hT, hn1, hl1⟩ := HT.out.trans_far hT hR1 HN0.out
        replace HT := Lib.hid hT; have HN1 := Lib.hid hn1; clear hT hR1 hn1 hl1
        go_wp2_with fail
        refine (popW_in u l { s with tries := 1, clock := s.timeout } g S1 _ HWT.out hl HT.out.in_).mono ?_
        rintro e w3 ⟨rfl, hT⟩
        have hR1 := HR.out.lt
        replace HR := Lib.hid (HR.out.in_keep HN1.out hT)
        obtain ⟨S2, hT, hn2, hl2⟩ := HT.out.trans_far hT hR1 HN1.out
        replace HT := Lib.hid hT; clear hT hR1
        obtain ⟨b, hb⟩ : ∃ b, b = w3.heap.size := ⟨_, rfl⟩
        go_upto_region 28 with fail
        rw [← hb]
        refine gen_world (fun W => Pt w W g S S2 { ({ s with tries := 1, clock := s.timeout } : Fs) with waiting := l } ∧ Blk W w.heap.size [.int .i64 0, .int .i64 0, .bool false, .bool false, .int .i64 0, .string ⟨#[]⟩] 37 ∧ Blk W b [.int .i64 u.id, .string u.data, .bool u.mark] 74 ∧ w.heap.size < b ∧ w.heap.size ∉ S2 ∧ b ∉ S2) ⟨HT.out.keepB ((Below.refl _ _).alloc (Nat.le_refl _) _), HR.out.alloc _, by rw [hb]; exact Blk.new w3 _ 74, by rw [hb]; exact HR.out.lt, hn2, fun h => by have := hl2 b h; omega⟩ ?_
        clear HT HR hb hn2 hl2
        rintro w4 ⟨hT, hR, hY, hlt, hr2, hb2⟩
        have HT := Lib.hid hT; have HR := Lib.hid hR; have HY := Lib.hid hY; have HR2 := Lib.hid hr2; have HB2 := Lib.hid hb2
        clear hT hR hY hr2 hb2
        have y0 := HY.out.cell 0
        have y1 := HY.out.cell 1
        have y2 := HY.out.cell 2
        simp only [List.getElem?_cons_zero, List.getElem?_cons_succ] at y0 y1 y2
        go_region_with (first | (go_at_call 58; refine (pushS_in u { ({ s with tries := 1, clock := s.timeout } : Fs) with waiting := l } g S2 _ hn2 HT.out.drew.in_).mono ?_; rintro e w5 ⟨rfl, hT⟩) | fail)
        have hR1 := HR.out.lt
        have hY1 := HY.out.lt
        have HR5 := Lib.hid (HR.out.drew.in_keep HR2.out hT)
        have HY5 := Lib.hid (HY.out.drew.in_keep HB2.out hT)
        obtain ⟨S3, hT3, hn3, hl3⟩ := HT.out.drew.trans_far hT hR1 HR2.out
        have HT5 := Lib.hid (show Pt w w5 g S S3 { ({ s with tries := 1, clock := s.timeout } : Fs) with waiting := l, sent := s.sent ++ [u] } from hT3)
        have HN3 := Lib.hid hn3
        clear hT hT3 hn3 hl3 hR1 hY1 y0 y1 y2 HT HR HY HR2 HB2
        have HT := HT5; have HD := Lib.hid HY5.out.lt
        go_upto_region 29 with fail
        obtain ⟨ve3, vw3, vs3, vb3, hF, hS3⟩ := HT.out.in_
        have c9 := hF.blk.cell 9
        have hgl := hF.blk.lt
        have hgr : w.heap.size ≠ g := fun e => HN3.out (by rw [e]; exact hS3 _ own_g)
        simp only [Fs.cells, List.getElem?_cons_zero, List.getElem?_cons_succ] at c9
        have d1 := HY5.out.cell 1
        simp only [List.getElem?_cons_zero, List.getElem?_cons_succ] at d1
        have HG := Lib.hid hgl
        clear hF hS3 hgl
        obtain ⟨s3, hs3⟩ : ∃ s3, s3 = ({ ({ s with tries := 1, clock := s.timeout } : Fs) with waiting := l, sent := s.sent ++ [u] } : Fs) := ⟨_, rfl⟩
        have hln : ((s3.sent.length : Nat) : Int) = (s.sent.length : Int) + 1 := by rw [hs3]; simp
        have hs3c : s3.craft = s.craft ∧ s3.chan = s.chan := by rw [hs3]; exact ⟨rfl, rfl⟩
        rw [← hs3] at HT
        have HS3 := Lib.hid hs3; have HC3 := Lib.hid hs3c; have HLN := Lib.hid hln
        clear hs3 hs3c hln HT5
        have hw1 : IntKind.i64.wrap (s.base + ((s.sent.length : Int) + 1)) = s.base + ((s.sent.length : Int) + 1) := IntWalk.i64_in _ (by omega)
        have hw2 : IntKind.i64.wrap (s.base + ((s.sent.length : Int) + 1) - 1) = s.base + ((s.sent.length : Int) + 1) - 1 := IntWalk.i64_in _ (by omega)
        refine region_end (fun W => W.cell? ⟨g, 9, none⟩ = some (.int .i64 s.base) ∧ W.cell? ⟨b, 1, none⟩ = some (.string u.data)) 15 (by kernel_rfl) ⟨c9, d1⟩ (fun hInv hHeld => ?_)
        refine WpEnd.take (i := 0) (some 164) (v := ?_) rfl rfl (by kernel_rfl) (by kernel_rfl) (by kernel_rfl) (fun _ _ _ h => h) (by kernel_rfl) hInv (by assumption) (by rfl) ?_ (fun hInv => ?_)
        rotate_left
        · (intro w hSw; (try dsimp only at hSw); go_simp; (try with_reducible rfl))
        simp only [Act.put, List.setIfInBounds_toArray, List.set_cons_zero, List.set_cons_succ]
        refine WpEnd.take (i := 1) (some 165) (v := ?_) rfl rfl (by kernel_rfl) (by kernel_rfl) (by kernel_rfl) (fun _ _ _ h => h) (by kernel_rfl) hInv (by assumption) (by rfl) ?_ (fun hInv => ?_)
        rotate_left
        · (intro w hSw; (try dsimp only at hSw); go_simp; (try with_reducible rfl))
        simp only [Act.put, List.setIfInBounds_toArray, List.set_cons_zero, List.set_cons_succ]
        refine WpEnd.take (i := 2) (some 166) (v := ?_) rfl rfl (by kernel_rfl) (by kernel_rfl) (by kernel_rfl) (fun _ _ _ h => h) (by kernel_rfl) hInv (by assumption) (by rfl) ?_ (fun hInv => ?_)
        rotate_left
        · (intro w hSw; (try dsimp only at hSw); go_simp; (try with_reducible rfl))
        simp only [Act.put, List.setIfInBounds_toArray, List.set_cons_zero, List.set_cons_succ]
        refine WpEnd.take (i := 3) (some 167) (v := ?_) rfl rfl (by kernel_rfl) (by kernel_rfl) (by kernel_rfl) (fun _ _ _ h => h) (by kernel_rfl) hInv (by assumption) (by rfl) ?_ (fun hInv => ?_)
        rotate_left
        · (intro w hSw; (try dsimp only at hSw); go_simp; (try with_reducible rfl))
        simp only [Act.put, List.setIfInBounds_toArray, List.set_cons_zero, List.set_cons_succ]
        refine WpEnd.take (i := 4) (some 168) (v := ?_) rfl rfl (by kernel_rfl) (by kernel_rfl) (by kernel_rfl) (fun _ _ _ h => h) (by kernel_rfl) hInv (by assumption) (by rfl) ?_ (fun hInv => ?_)
        rotate_left
        · (intro w hSw; (try dsimp only at hSw); go_simp; (try with_reducible rfl))
        simp only [Act.put, List.setIfInBounds_toArray, List.set_cons_zero, List.set_cons_succ]
        refine WpEnd.take (i := 5) (some 169) (v := ?_) rfl rfl (by kernel_rfl) (by kernel_rfl) (by kernel_rfl) (fun _ _ _ h => h) (by kernel_rfl) hInv (by assumption) (by rfl) ?_ (fun hInv => ?_)
        rotate_left
        · (intro w hSw; (try dsimp only at hSw); go_simp; (try with_reducible rfl))
        simp only [Act.put, List.setIfInBounds_toArray, List.set_cons_zero, List.set_cons_succ]
        refine WpEnd.take (i := 6) (some 170) (v := ?_) rfl rfl (by kernel_rfl) (by kernel_rfl) (by kernel_rfl) (fun _ _ _ h => h) (by kernel_rfl) hInv (by assumption) (by rfl) ?_ (fun hInv => ?_)
        rotate_left
        · (intro w hSw; (try dsimp only at hSw); go_simp; (try with_reducible rfl))
        simp only [Act.put, List.setIfInBounds_toArray, List.set_cons_zero, List.set_cons_succ]
        refine WpEnd.take (i := 7) (some 171) (v := ?_) rfl rfl (by kernel_rfl) (by kernel_rfl) (by kernel_rfl) (fun _ _ _ h => h) (by kernel_rfl) hInv (by assumption) (by rfl) ?_ (fun hInv => ?_)
        rotate_left
        · (intro w hSw; (try dsimp only at hSw); go_simp; (try with_reducible rfl))
        simp only [Act.put, List.setIfInBounds_toArray, List.set_cons_zero, List.set_cons_succ]
        refine WpEnd.take (i := 11) (some 175) (v := ?_) rfl rfl (by kernel_rfl) (by kernel_rfl) (by kernel_rfl) (fun _ _ _ h => h) (by kernel_rfl) hInv (by assumption) (by rfl) ?_ (fun hInv => ?_)
        rotate_left
        · (intro w hSw; (try dsimp only at hSw); go_simp; (try with_reducible rfl))
        simp only [Act.put, List.setIfInBounds_toArray, List.set_cons_zero, List.set_cons_succ]
        refine WpEnd.take (i := 12) (some 176) (v := ?_) rfl rfl (by kernel_rfl) (by kernel_rfl) (by kernel_rfl) (fun _ _ _ h => h) (by kernel_rfl) hInv (by assumption) (by rfl) ?_ (fun hInv => ?_)
        rotate_left
        · (intro w hSw; (try dsimp only at hSw); go_simp; (try with_reducible rfl))
        simp only [Act.put, List.setIfInBounds_toArray, List.set_cons_zero, List.set_cons_succ]
        refine WpEnd.ready (rs := [8]) (by kernel_rfl) (by simp) ?_
        refine EachEnd.cons (some 172) rfl rfl (by decide) (by kernel_rfl) hInv (fun K hKK hKB => ?_) EachEnd.nil
        refine step_call rfl 26 #[.tmp 171] _ rfl #[.pointer (some ⟨g, 14, none⟩)] (by kernel_rfl) (fun x W => x = .int .i64 ((s.sent.length : Int) + 1) ∧ w5.drew = W) ((lenS_in s3 g S3 w5.drew HT.out.drew.in_).mono fun e W h => ⟨_, h.1, by rw [HLN.out], h.2⟩) ?_
        rintro x w6 ⟨rfl, rfl⟩
        refine hKK.out _ _ hHeld (fun hInv hHeld => ?_)
        clear hKK hKB K
        simp only [Act.put, List.setIfInBounds_toArray, List.set_cons_zero, List.set_cons_succ]
        refine WpEnd.take (i := 9) (some 173) (v := ?_) rfl rfl (by kernel_rfl) (by kernel_rfl) (by kernel_rfl) (fun _ _ _ h => h) (by kernel_rfl) hInv (by assumption) (by rfl) ?_ (fun hInv => ?_)
        rotate_left
        · (intro w hSw; (try dsimp only at hSw); go_simp; (try with_reducible rfl))
        simp only [Act.put, List.setIfInBounds_toArray, List.set_cons_zero, List.set_cons_succ]
        refine WpEnd.take (i := 10) (some 174) (v := ?_) rfl rfl (by kernel_rfl) (by kernel_rfl) (by kernel_rfl) (fun _ _ _ h => h) (by kernel_rfl) hInv (by assumption) (by rfl) ?_ (fun hInv => ?_)
        rotate_left
        · (intro w hSw; (try dsimp only at hSw); go_simp; (try with_reducible rfl))
        simp only [Act.put, List.setIfInBounds_toArray, List.set_cons_zero, List.set_cons_succ]
        refine WpEnd.ready (rs := [13]) (by kernel_rfl) (by simp) ?_
        refine EachEnd.cons (some 177) rfl rfl (by decide) (by kernel_rfl) hInv (fun K hKK hKB => ?_) EachEnd.nil
        refine step_call rfl 55 #[.tmp 164, .tmp 174, .tmp 176] _ rfl #[.pointer (some ⟨g, 0, none⟩), .int .i64 (s.base + ((s.sent.length : Int) + 1) - 1), .string u.data] (by kernel_rfl) (fun x W => x = .agg #[.int .i64 s3.craft, .int .i64 s3.chan, .bool false, .bool false, .int .i64 ((s.base + ((s.sent.length : Int) + 1) - 1) % 256), .string u.data] ∧ Below w5.drew.heap.size w5.drew W) ((frame_in (s.base + ((s.sent.length : Int) + 1) - 1) u.data s3 g S3 w5.drew (by omega) (by omega) HT.out.drew.in_).mono fun e W h => ⟨_, h.1, rfl, h.2⟩) ?_
        rintro x w6 ⟨rfl, hL6⟩
        have c9' := (hL6.cell (p := ⟨g, 9, none⟩) HG.out).trans hHeld.1
        have d1' := (hL6.cell (p := ⟨b, 1, none⟩) HD.out).trans hHeld.2
        have HR6 := Lib.hid (HR5.out.drew.below hL6 HR5.out.lt)
        have HT6 := Lib.hid (HT.out.drew.keepB hL6)
        clear hL6
        refine hKK.out _ _ ⟨c9', d1'⟩ (fun hInv hHeld => ?_)
        clear hKK hKB K
        simp only [Act.put, List.setIfInBounds_toArray, List.set_cons_zero, List.set_cons_succ]
        refine WpEnd.ready (rs := [14]) (by kernel_rfl) (by simp) ?_
        refine EachEnd.cons none rfl rfl (by decide) (by kernel_rfl) hInv (fun K hKK hKB => ?_) EachEnd.nil
        refine step_store_blk rfl 37 (.tmp 2) (.tmp 177) rfl w.heap.size 37 _ [.int .i64 s3.craft, .int .i64 s3.chan, .bool false, .bool false, .int .i64 ((s.base + ((s.sent.length : Int) + 1) - 1) % 256), .string u.data] rfl rfl HR6.out rfl (by kernel_rfl) (by kernel_rfl) ?_
        intro w7 hR7 hK7
        have c9'' := (hK7.cell (p := ⟨g, 9, none⟩) (World.block_lt_of_cell? _ _ c9') (by simp; omega)).trans c9'
        have d1'' := (hK7.cell (p := ⟨b, 1, none⟩) (World.block_lt_of_cell? _ _ d1') (by simp; omega)).trans d1'
        refine hKK.out _ _ ⟨c9'', d1''⟩ (fun hInv hHeld => ?_)
        clear hKK hKB K
        simp only [Act.put, List.setIfInBounds_toArray, List.set_cons_zero, List.set_cons_succ]
        refine WpEnd.ready (rs := [15]) (by kernel_rfl) (by simp) ?_
        refine EachEnd.last rfl (fun K hKK => ?_)
        go_simp
        refine hKK.out _ _ ?_
        clear hKK K
        refine WpEnd.done (by kernel_rfl) ?_ _
        have HT7 := Lib.hid (HT6.out.far hK7 (fun i hi => by simp at hi; subst hi; exact Nat.le_refl _) (fun i hi _ h => by simp at h; subst h; exact HN3.out hi))
        clear hK7 c9'' d1'' c9' d1' hHeld c9 d1
        go_wp2_with fail
        refine ret_cell_tmp rfl w.heap.size 37 [.int .i64 s3.craft, .int .i64 s3.chan, .bool false, .bool false, .int .i64 ((s.base + ((s.sent.length : Int) + 1) - 1) % 256), .string u.data] rfl hR7 Tryz.underlying37 rfl (by kernel_rfl) rfl ?_
        have hT7 := HT7.out.to
        rw [HS3.out] at hT7
        refine ⟨?_, by rw [HNS.out]; exact hT7⟩
        rw [HC3.out.1, HC3.out.2, show s.base + ((s.sent.length : Int) + 1) - 1 = s.base + (s.sent.length : Int) by omega]
        rfl
      · have k7 : ((s.sent.length : Int) == 0) = false := by simp only [beq_eq_false_iff_ne, ne_eq]; omega
        have HNS := Lib.hid (show newSent s u l = { s with waiting := l, sent := s.sent ++ [u] } by unfold newSent; rw [if_neg hz])
        clear hz
        go_wp2_with fail
        refine (lenS_in s g S _ HT.out.in_).mono ?_
        rintro e _ ⟨rfl, rfl⟩
        obtain ⟨S1, hS1⟩ : ∃ S1, S1 = S := ⟨_, rfl⟩
        have HT := Lib.hid (show Pt w w2 g S S1 s by rw [hS1]; exact HT.out)
        have HN1 := Lib.hid (show w.heap.size ∉ S1 by rw [hS1]; exact HN0.out)
        clear hS1
        go_wp2_with fail
        refine (popW_in u l s g S1 _ HWT.out hl HT.out.in_).mono ?_
        rintro e w3 ⟨rfl, hT⟩
        have hR1 := HR.out.lt
        replace HR := Lib.hid (HR.out.in_keep HN1.out hT)
        obtain ⟨S2, hT, hn2, hl2⟩ := HT.out.trans_far hT hR1 HN1.out
        replace HT := Lib.hid hT; clear hT hR1
        obtain ⟨b, hb⟩ : ∃ b, b = w3.heap.size := ⟨_, rfl⟩
        go_upto_region 28 with fail
        rw [← hb]
        refine gen_world (fun W => Pt w W g S S2 { (s : Fs) with waiting := l } ∧ Blk W w.heap.size [.int .i64 0, .int .i64 0, .bool false, .bool false, .int .i64 0, .string ⟨#[]⟩] 37 ∧ Blk W b [.int .i64 u.id, .string u.data, .bool u.mark] 74 ∧ w.heap.size < b ∧ w.heap.size ∉ S2 ∧ b ∉ S2) ⟨HT.out.keepB ((Below.refl _ _).alloc (Nat.le_refl _) _), HR.out.alloc _, by rw [hb]; exact Blk.new w3 _ 74, by rw [hb]; exact HR.out.lt, hn2, fun h => by have := hl2 b h; omega⟩ ?_
        clear HT HR hb hn2 hl2
        rintro w4 ⟨hT, hR, hY, hlt, hr2, hb2⟩
        have HT := Lib.hid hT; have HR := Lib.hid hR; have HY := Lib.hid hY; have HR2 := Lib.hid hr2; have HB2 := Lib.hid hb2
        clear hT hR hY hr2 hb2
        have y0 := HY.out.cell 0
        have y1 := HY.out.cell 1
        have y2 := HY.out.cell 2
        simp only [List.getElem?_cons_zero, List.getElem?_cons_succ] at y0 y1 y2
        go_region_with (first | (go_at_call 58; refine (pushS_in u { (s : Fs) with waiting := l } g S2 _ hn2 HT.out.drew.in_).mono ?_; rintro e w5 ⟨rfl, hT⟩) | fail)
        have hR1 := HR.out.lt
        have hY1 := HY.out.lt
        have HR5 := Lib.hid (HR.out.drew.in_keep HR2.out hT)
        have HY5 := Lib.hid (HY.out.drew.in_keep HB2.out hT)
        obtain ⟨S3, hT3, hn3, hl3⟩ := HT.out.drew.trans_far hT hR1 HR2.out
        have HT5 := Lib.hid (show Pt w w5 g S S3 { (s : Fs) with waiting := l, sent := s.sent ++ [u] } from hT3)
        have HN3 := Lib.hid hn3
        clear hT hT3 hn3 hl3 hR1 hY1 y0 y1 y2 HT HR HY HR2 HB2
        have HT := HT5; have HD := Lib.hid HY5.out.lt
        go_upto_region 29 with fail
        obtain ⟨ve3, vw3, vs3, vb3, hF, hS3⟩ := HT.out.in_
        have c9 := hF.blk.cell 9
        have hgl := hF.blk.lt
        have hgr : w.heap.size ≠ g := fun e => HN3.out (by rw [e]; exact hS3 _ own_g)
        simp only [Fs.cells, List.getElem?_cons_zero, List.getElem?_cons_succ] at c9
        have d1 := HY5.out.cell 1
        simp only [List.getElem?_cons_zero, List.getElem?_cons_succ] at d1
        have HG := Lib.hid hgl
        clear hF hS3 hgl
        obtain ⟨s3, hs3⟩ : ∃ s3, s3 = ({ (s : Fs) with waiting := l, sent := s.sent ++ [u] } : Fs) := ⟨_, rfl⟩
        have hln : ((s3.sent.length : Nat) : Int) = (s.sent.length : Int) + 1 := by rw [hs3]; simp
        have hs3c : s3.craft = s.craft ∧ s3.chan = s.chan := by rw [hs3]; exact ⟨rfl, rfl⟩
        rw [← hs3] at HT
        have HS3 := Lib.hid hs3; have HC3 := Lib.hid hs3c; have HLN := Lib.hid hln
        clear hs3 hs3c hln HT5
        have hw1 : IntKind.i64.wrap (s.base + ((s.sent.length : Int) + 1)) = s.base + ((s.sent.length : Int) + 1) := IntWalk.i64_in _ (by omega)
        have hw2 : IntKind.i64.wrap (s.base + ((s.sent.length : Int) + 1) - 1) = s.base + ((s.sent.length : Int) + 1) - 1 := IntWalk.i64_in _ (by omega)
        refine region_end (fun W => W.cell? ⟨g, 9, none⟩ = some (.int .i64 s.base) ∧ W.cell? ⟨b, 1, none⟩ = some (.string u.data)) 15 (by kernel_rfl) ⟨c9, d1⟩ (fun hInv hHeld => ?_)
        refine WpEnd.take (i := 0) (some 164) (v := ?_) rfl rfl (by kernel_rfl) (by kernel_rfl) (by kernel_rfl) (fun _ _ _ h => h) (by kernel_rfl) hInv (by assumption) (by rfl) ?_ (fun hInv => ?_)
        rotate_left
        · (intro w hSw; (try dsimp only at hSw); go_simp; (try with_reducible rfl))
        simp only [Act.put, List.setIfInBounds_toArray, List.set_cons_zero, List.set_cons_succ]
        refine WpEnd.take (i := 1) (some 165) (v := ?_) rfl rfl (by kernel_rfl) (by kernel_rfl) (by kernel_rfl) (fun _ _ _ h => h) (by kernel_rfl) hInv (by assumption) (by rfl) ?_ (fun hInv => ?_)
        rotate_left
        · (intro w hSw; (try dsimp only at hSw); go_simp; (try with_reducible rfl))
        simp only [Act.put, List.setIfInBounds_toArray, List.set_cons_zero, List.set_cons_succ]
        refine WpEnd.take (i := 2) (some 166) (v := ?_) rfl rfl (by kernel_rfl) (by kernel_rfl) (by kernel_rfl) (fun _ _ _ h => h) (by kernel_rfl) hInv (by assumption) (by rfl) ?_ (fun hInv => ?_)
        rotate_left
        · (intro w hSw; (try dsimp only at hSw); go_simp; (try with_reducible rfl))
        simp only [Act.put, List.setIfInBounds_toArray, List.set_cons_zero, List.set_cons_succ]
        refine WpEnd.take (i := 3) (some 167) (v := ?_) rfl rfl (by kernel_rfl) (by kernel_rfl) (by kernel_rfl) (fun _ _ _ h => h) (by kernel_rfl) hInv (by assumption) (by rfl) ?_ (fun hInv => ?_)
        rotate_left
        · (intro w hSw; (try dsimp only at hSw); go_simp; (try with_reducible rfl))
        simp only [Act.put, List.setIfInBounds_toArray, List.set_cons_zero, List.set_cons_succ]
        refine WpEnd.take (i := 4) (some 168) (v := ?_) rfl rfl (by kernel_rfl) (by kernel_rfl) (by kernel_rfl) (fun _ _ _ h => h) (by kernel_rfl) hInv (by assumption) (by rfl) ?_ (fun hInv => ?_)
        rotate_left
        · (intro w hSw; (try dsimp only at hSw); go_simp; (try with_reducible rfl))
        simp only [Act.put, List.setIfInBounds_toArray, List.set_cons_zero, List.set_cons_succ]
        refine WpEnd.take (i := 5) (some 169) (v := ?_) rfl rfl (by kernel_rfl) (by kernel_rfl) (by kernel_rfl) (fun _ _ _ h => h) (by kernel_rfl) hInv (by assumption) (by rfl) ?_ (fun hInv => ?_)
        rotate_left
        · (intro w hSw; (try dsimp only at hSw); go_simp; (try with_reducible rfl))
        simp only [Act.put, List.setIfInBounds_toArray, List.set_cons_zero, List.set_cons_succ]
        refine WpEnd.take (i := 6) (some 170) (v := ?_) rfl rfl (by kernel_rfl) (by kernel_rfl) (by kernel_rfl) (fun _ _ _ h => h) (by kernel_rfl) hInv (by assumption) (by rfl) ?_ (fun hInv => ?_)
        rotate_left
        · (intro w hSw; (try dsimp only at hSw); go_simp; (try with_reducible rfl))
        simp only [Act.put, List.setIfInBounds_toArray, List.set_cons_zero, List.set_cons_succ]
        refine WpEnd.take (i := 7) (some 171) (v := ?_) rfl rfl (by kernel_rfl) (by kernel_rfl) (by kernel_rfl) (fun _ _ _ h => h) (by kernel_rfl) hInv (by assumption) (by rfl) ?_ (fun hInv => ?_)
        rotate_left
        · (intro w hSw; (try dsimp only at hSw); go_simp; (try with_reducible rfl))
        simp only [Act.put, List.setIfInBounds_toArray, List.set_cons_zero, List.set_cons_succ]
        refine WpEnd.take (i := 11) (some 175) (v := ?_) rfl rfl (by kernel_rfl) (by kernel_rfl) (by kernel_rfl) (fun _ _ _ h => h) (by kernel_rfl) hInv (by assumption) (by rfl) ?_ (fun hInv => ?_)
        rotate_left
        · (intro w hSw; (try dsimp only at hSw); go_simp; (try with_reducible rfl))
        simp only [Act.put, List.setIfInBounds_toArray, List.set_cons_zero, List.set_cons_succ]
        refine WpEnd.take (i := 12) (some 176) (v := ?_) rfl rfl (by kernel_rfl) (by kernel_rfl) (by kernel_rfl) (fun _ _ _ h => h) (by kernel_rfl) hInv (by assumption) (by rfl) ?_ (fun hInv => ?_)
        rotate_left
        · (intro w hSw; (try dsimp only at hSw); go_simp; (try with_reducible rfl))
        simp only [Act.put, List.setIfInBounds_toArray, List.set_cons_zero, List.set_cons_succ]
        refine WpEnd.ready (rs := [8]) (by kernel_rfl) (by simp) ?_
        refine EachEnd.cons (some 172) rfl rfl (by decide) (by kernel_rfl) hInv (fun K hKK hKB => ?_) EachEnd.nil
        refine step_call rfl 26 #[.tmp 171] _ rfl #[.pointer (some ⟨g, 14, none⟩)] (by kernel_rfl) (fun x W => x = .int .i64 ((s.sent.length : Int) + 1) ∧ w5.drew = W) ((lenS_in s3 g S3 w5.drew HT.out.drew.in_).mono fun e W h => ⟨_, h.1, by rw [HLN.out], h.2⟩) ?_
        rintro x w6 ⟨rfl, rfl⟩
        refine hKK.out _ _ hHeld (fun hInv hHeld => ?_)
        clear hKK hKB K
        simp only [Act.put, List.setIfInBounds_toArray, List.set_cons_zero, List.set_cons_succ]
        refine WpEnd.take (i := 9) (some 173) (v := ?_) rfl rfl (by kernel_rfl) (by kernel_rfl) (by kernel_rfl) (fun _ _ _ h => h) (by kernel_rfl) hInv (by assumption) (by rfl) ?_ (fun hInv => ?_)
        rotate_left
        · (intro w hSw; (try dsimp only at hSw); go_simp; (try with_reducible rfl))
        simp only [Act.put, List.setIfInBounds_toArray, List.set_cons_zero, List.set_cons_succ]
        refine WpEnd.take (i := 10) (some 174) (v := ?_) rfl rfl (by kernel_rfl) (by kernel_rfl) (by kernel_rfl) (fun _ _ _ h => h) (by kernel_rfl) hInv (by assumption) (by rfl) ?_ (fun hInv => ?_)
        rotate_left
        · (intro w hSw; (try dsimp only at hSw); go_simp; (try with_reducible rfl))
        simp only [Act.put, List.setIfInBounds_toArray, List.set_cons_zero, List.set_cons_succ]
        refine WpEnd.ready (rs := [13]) (by kernel_rfl) (by simp) ?_
        refine EachEnd.cons (some 177) rfl rfl (by decide) (by kernel_rfl) hInv (fun K hKK hKB => ?_) EachEnd.nil
        refine step_call rfl 55 #[.tmp 164, .tmp 174, .tmp 176] _ rfl #[.pointer (some ⟨g, 0, none⟩), .int .i64 (s.base + ((s.sent.length : Int) + 1) - 1), .string u.data] (by kernel_rfl) (fun x W => x = .agg #[.int .i64 s3.craft, .int .i64 s3.chan, .bool false, .bool false, .int .i64 ((s.base + ((s.sent.length : Int) + 1) - 1) % 256), .string u.data] ∧ Below w5.drew.heap.size w5.drew W) ((frame_in (s.base + ((s.sent.length : Int) + 1) - 1) u.data s3 g S3 w5.drew (by omega) (by omega) HT.out.drew.in_).mono fun e W h => ⟨_, h.1, rfl, h.2⟩) ?_
        rintro x w6 ⟨rfl, hL6⟩
        have c9' := (hL6.cell (p := ⟨g, 9, none⟩) HG.out).trans hHeld.1
        have d1' := (hL6.cell (p := ⟨b, 1, none⟩) HD.out).trans hHeld.2
        have HR6 := Lib.hid (HR5.out.drew.below hL6 HR5.out.lt)
        have HT6 := Lib.hid (HT.out.drew.keepB hL6)
        clear hL6
        refine hKK.out _ _ ⟨c9', d1'⟩ (fun hInv hHeld => ?_)
        clear hKK hKB K
        simp only [Act.put, List.setIfInBounds_toArray, List.set_cons_zero, List.set_cons_succ]
        refine WpEnd.ready (rs := [14]) (by kernel_rfl) (by simp) ?_
        refine EachEnd.cons none rfl rfl (by decide) (by kernel_rfl) hInv (fun K hKK hKB => ?_) EachEnd.nil
        refine step_store_blk rfl 37 (.tmp 2) (.tmp 177) rfl w.heap.size 37 _ [.int .i64 s3.craft, .int .i64 s3.chan, .bool false, .bool false, .int .i64 ((s.base + ((s.sent.length : Int) + 1) - 1) % 256), .string u.data] rfl rfl HR6.out rfl (by kernel_rfl) (by kernel_rfl) ?_
        intro w7 hR7 hK7
        have c9'' := (hK7.cell (p := ⟨g, 9, none⟩) (World.block_lt_of_cell? _ _ c9') (by simp; omega)).trans c9'
        have d1'' := (hK7.cell (p := ⟨b, 1, none⟩) (World.block_lt_of_cell? _ _ d1') (by simp; omega)).trans d1'
        refine hKK.out _ _ ⟨c9'', d1''⟩ (fun hInv hHeld => ?_)
        clear hKK hKB K
        simp only [Act.put, List.setIfInBounds_toArray, List.set_cons_zero, List.set_cons_succ]
        refine WpEnd.ready (rs := [15]) (by kernel_rfl) (by simp) ?_
        refine EachEnd.last rfl (fun K hKK => ?_)
        go_simp
        refine hKK.out _ _ ?_
        clear hKK K
        refine WpEnd.done (by kernel_rfl) ?_ _
        have HT7 := Lib.hid (HT6.out.far hK7 (fun i hi => by simp at hi; subst hi; exact Nat.le_refl _) (fun i hi _ h => by simp at h; subst h; exact HN3.out hi))
        clear hK7 c9'' d1'' c9' d1' hHeld c9 d1
        go_wp2_with fail
        refine ret_cell_tmp rfl w.heap.size 37 [.int .i64 s3.craft, .int .i64 s3.chan, .bool false, .bool false, .int .i64 ((s.base + ((s.sent.length : Int) + 1) - 1) % 256), .string u.data] rfl hR7 Tryz.underlying37 rfl (by kernel_rfl) rfl ?_
        have hT7 := HT7.out.to
        rw [HS3.out] at hT7
        refine ⟨?_, by rw [HNS.out]; exact hT7⟩
        rw [HC3.out.1, HC3.out.2, show s.base + ((s.sent.length : Int) + 1) - 1 = s.base + (s.sent.length : Int) by omega]
        rfl
end
end
end
end Go.Proofs.YtgopighmifpefaaGreatDoor
