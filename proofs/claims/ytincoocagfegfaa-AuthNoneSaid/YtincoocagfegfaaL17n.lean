/- What is proved here: the walks of the laws about guards that do nothing. -/
import Derived.Test.YtincoocagfegfaaU14
set_option linter.unusedVariables false
set_option linter.unusedSimpArgs false
namespace Go.Proofs.Ytincoocagfegfaa
open Go.RowKit
theorem anone_zero (g : Nat) (w : World) (hB : Gd w g ⟨#[]⟩ Gs.zero) : Calls Try.prog 26 #[.pointer (some ⟨g, 0, none⟩)] w fun e w' => e = .returned (.bool true) ∧ w = w' := by
  have := anone_any g ⟨#[]⟩ Gs.zero w hB
  rw [toList_data] at this
  exact this
set_option maxHeartbeats 4000000 in
set_option maxRecDepth 100000 in
theorem AuthNone_any (ch : Int) (d : ByteArray) (w : World) : Calls Try.prog 5 #[.int .i64 ch, .string d] w fun e w' => e = .returned (.bool true) ∧ Below w.heap.size w w' := by
  have HSH := Lib.hid (shown17_any w)
  have HN1 := Lib.hid (fun W => aOpen_idle (.pointer none) ch d W (fun W _ => anone_nil W))
  have HN2 := Lib.hid (fun g W (h : Gd W g ⟨#[]⟩ Gs.zero) => aOpen_idle (.pointer (some ⟨g, 0, none⟩)) ch d W (fun W' hb => anone_zero g W' (h.below hb h.lt)))
  simp only [Cm.val, Cm.zero] at HN1 HN2
  have HN3 := Lib.hid (fun W => aLast_idle (.pointer none) ch W (anone_nil W))
  have HN4 := Lib.hid (fun g W (h : Gd W g ⟨#[]⟩ Gs.zero) => aLast_idle (.pointer (some ⟨g, 0, none⟩)) ch W (anone_zero g W h))
  go_enter Try.func5, Try.ntmps5
  go_wp2_with fail
  refine HSH.out.mono ?_
  rintro e w1 ⟨rfl, hL⟩
  have HL := Lib.hid hL; clear hL
  go_wp2_with fail
  replace HL := Lib.hid (HL.out.alloc HL.out.size (Obj.cells #[.string ⟨#[]⟩, .int .u64 0, .int .u64 0, .int .u64 0, .int .u64 0, .int .u64 0, .int .u64 0, .int .u64 0, .int .u64 0, .int .u64 0] 45))
  have hG : Gd (w1.alloc (Obj.cells #[.string ⟨#[]⟩, .int .u64 0, .int .u64 0, .int .u64 0, .int .u64 0, .int .u64 0, .int .u64 0, .int .u64 0, .int .u64 0, .int .u64 0] 45)) w1.heap.size ⟨#[]⟩ Gs.zero := Blk.new w1 [.string ⟨#[]⟩, .int .u64 0, .int .u64 0, .int .u64 0, .int .u64 0, .int .u64 0, .int .u64 0, .int .u64 0, .int .u64 0, .int .u64 0] 45
  obtain ⟨g, hg⟩ : ∃ g, g = w1.heap.size := ⟨_, rfl⟩
  rw [← hg] at hG ⊢
  have HG := Lib.hid hG
  clear hG hg
  refine (HN1.out _).mono ?_
  rintro e w2 ⟨rfl, hL⟩
  replace HL := Lib.hid (HL.out.trans (hL.mono HL.out.size))
  replace HG := Lib.hid (HG.out.below hL HG.out.lt)
  clear hL
  obtain ⟨p7, hp7⟩ : ∃ p7, p7 = w2.heap.size := ⟨_, rfl⟩
  have hgp := HG.out.lt
  go_wp2_with fail
  rw [← hp7]
  replace HL := Lib.hid (HL.out.alloc HL.out.size (Obj.cells #[.int .i64 0, .int .u64 0, .int .i64 0, .string ⟨#[]⟩] 24))
  replace HG := Lib.hid (show Gd _ g ⟨#[]⟩ Gs.zero from Blk.alloc HG.out (Obj.cells #[.int .i64 0, .int .u64 0, .int .i64 0, .string ⟨#[]⟩] 24))
  have HP := Lib.hid (Blk.new_at w2 [.int .i64 0, .int .u64 0, .int .i64 0, .string ⟨#[]⟩] 24 p7 hp7)
  refine (HN2.out g _ HG.out).mono ?_
  rintro e w3 ⟨rfl, hL⟩
  replace HL := Lib.hid (HL.out.trans (hL.mono HL.out.size))
  replace HG := Lib.hid (HG.out.below hL HG.out.lt)
  replace HP := Lib.hid (HP.out.below hL HP.out.lt)
  clear hL hp7 hgp
  obtain ⟨p10, hp10⟩ : ∃ p10, p10 = w3.heap.size := ⟨_, rfl⟩
  have HQ := Blk.new_at w3 [.int .i64 0, .int .u64 0, .int .i64 0, .string ⟨#[]⟩] 24 p10 hp10
  go_upto_region 7 with fail
  rw [← hp10]
  refine gen_world (fun v => Below w.heap.size w v ∧ Blk v p7 [.int .i64 0, .int .u64 0, .int .i64 0, .string ⟨#[]⟩] 24 ∧ Blk v p10 [.int .i64 0, .int .u64 0, .int .i64 0, .string ⟨#[]⟩] 24 ∧ Gd v g ⟨#[]⟩ Gs.zero) ⟨HL.out.alloc HL.out.size _, HP.out.alloc _, HQ, Blk.alloc HG.out _⟩ ?_
  clear HL HP HQ HG hp10
  rintro v ⟨hL, hP, hQ, hG⟩
  have HL2 := Lib.hid hL; have HP2 := Lib.hid hP; have HQ2 := Lib.hid hQ; have HG2 := Lib.hid hG
  clear hL hP hQ hG
  have a0 := HP2.out.cell 0
  have a1 := HP2.out.cell 1
  have a2 := HP2.out.cell 2
  have a3 := HP2.out.cell 3
  simp only [List.getElem?_cons_zero, List.getElem?_cons_succ] at a0 a1 a2 a3
  have b0 := HQ2.out.cell 0
  have b1 := HQ2.out.cell 1
  have b2 := HQ2.out.cell 2
  have b3 := HQ2.out.cell 3
  simp only [List.getElem?_cons_zero, List.getElem?_cons_succ] at b0 b1 b2 b3
  go_wp2_with fail
  refine (HN3.out _).mono ?_
  rintro e w4 ⟨rfl, hL⟩
  replace HL2 := Lib.hid (HL2.out.trans (hL.mono HL2.out.size))
  replace HG2 := Lib.hid (HG2.out.below hL HG2.out.lt)
  clear hL a0 a1 a2 a3 b0 b1 b2 b3
  go_wp2_with fail
  refine (HN4.out g _ HG2.out).mono ?_
  rintro e w5 ⟨rfl, hL⟩
  replace HL2 := Lib.hid (HL2.out.trans (hL.mono HL2.out.size))
  clear hL
  go_wp2_with fail
  go_ret
  exact ⟨rfl, HL2.out⟩
end Go.Proofs.Ytincoocagfegfaa
