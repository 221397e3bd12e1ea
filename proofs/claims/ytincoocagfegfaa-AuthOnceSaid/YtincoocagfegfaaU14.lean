/- What is proved here: the walk of the function that shows that something is done. -/
import Derived.Test.YtincoocagfegfaaU13
set_option linter.unusedVariables false
set_option linter.unusedSimpArgs false
namespace Go.Proofs.Ytincoocagfegfaa
open Go.RowKit
def zb : ByteArray := ⟨#[0, 0, 0, 0, 0, 0, 0, 0, 0, 0, 0, 0, 0, 0, 0, 0]⟩
def c17 : Cm := ⟨1, 1#64, 2, ⟨#[97, 98]⟩⟩
theorem c17_ok : c17.ok := ⟨by decide, by decide, by decide, by decide, by decide, by decide⟩
def t17 : ByteArray := ⟨(sealL zb.data.toList c17).toArray⟩
theorem t17_size : t17.size = 19 := by
  rw [size_list]
  show (sealL zb.data.toList c17).length = 19
  rw [sealL, List.length_append, bodyL_length, sumL_length]; rfl
theorem t17_head : (t17.extract 0 11).data.toList = [0, 0, 0, 0, 0, 0, 0, 1, 2, 97, 98] := by
  rw [extract_list]
  show ((sealL zb.data.toList c17).drop 0).take (11 - 0) = _
  rw [List.drop_zero, sealL, List.take_left' (by rw [bodyL_length]; rfl)]
  decide +kernel
theorem diff17 : (sumL zb.data.toList 2 (bodyL c17) == sumL zb.data.toList 1 (bodyL c17)) = false := by decide +kernel
def s17 : Gs := Gs.zero.take 1 1#64
def v17 : ByteArray := ⟨(textL s17).toArray⟩
theorem v17_size : v17.size = 76 := by rw [size_list]; exact textL_length s17
theorem open17_1 : openIn zb.data.toList Gs.zero 1 t17 = ⟨s17, c17, v17, 0⟩ := by
  have := open_seal zb.data.toList Gs.zero c17 t17 c17_ok rfl
  rw [show c17.chan = 1 from rfl] at this
  rw [this]
  rw [if_neg (by decide)]
  rfl
theorem open17_2 : openIn zb.data.toList s17 1 t17 = ⟨s17, Cm.zero, ⟨#[]⟩, 171⟩ := by
  have := open_seal zb.data.toList s17 c17 t17 c17_ok rfl
  rw [show c17.chan = 1 from rfl] at this
  rw [this]
  rw [if_pos (by decide)]
theorem open17_3 : openIn zb.data.toList s17 2 t17 = ⟨s17, Cm.zero, ⟨#[]⟩, 170⟩ := by
  have e1 : (t17.extract 0 (t17.size - 8)).data.toList = bodyL c17 := by
    rw [extract_list, t17_size]
    show ((sealL zb.data.toList c17).drop 0).take (19 - 8 - 0) = _
    rw [List.drop_zero, sealL, List.take_left' (by rw [bodyL_length]; rfl)]
  have e2 : (t17.extract (t17.size - 8) t17.size).data.toList = sumL zb.data.toList 1 (bodyL c17) := by
    rw [extract_list, t17_size]
    show ((sealL zb.data.toList c17).drop (19 - 8)).take (19 - (19 - 8)) = _
    rw [sealL, List.drop_left' (by rw [bodyL_length]; rfl)]
    exact List.take_of_length_le (by rw [sumL_length]; omega)
  unfold openIn
  simp only [e1, e2]
  rw [if_pos diff17]
def L17 (i : Nat) : ByteArray := if i = 0 then ⟨#[]⟩ else v17
theorem rest17 : restV L17 2 = .tuple #[.string v17, .int .i64 1] := by
  have h0 : isSaved (L17 0).data.toList = false := rfl
  have h1 : isSaved (L17 1).data.toList = true := saved_text s17
  have hb : bestK L17 2 = (1, (readL (L17 1).data.toList).ser) := by
    simp only [bestK, h0, h1, Bool.false_and, Bool.true_and]
    simp
  unfold restV
  rw [hb]
  rfl
theorem call17_seal (w : World) : Calls Try.prog 9 #[.string ⟨#[0, 0, 0, 0, 0, 0, 0, 0, 0, 0, 0, 0, 0, 0, 0, 0]⟩, .agg #[.int .i64 1, .int .u64 1, .int .i64 2, .string ⟨#[97, 98]⟩]] w fun e w' => e = .returned (.tuple #[.string t17, .int .i64 0]) ∧ Below w.heap.size w w' :=
  aSeal_ok zb c17 w rfl c17_ok
theorem call17_bad (w : World) : Calls Try.prog 9 #[.string ⟨#[0, 0, 0, 0, 0, 0, 0, 0, 0, 0, 0, 0, 0, 0, 0, 0]⟩, .agg #[.int .i64 0, .int .u64 0, .int .i64 1, .string ⟨#[]⟩]] w fun e w' => e = .returned (.tuple #[.string ⟨#[]⟩, .int .i64 2]) ∧ Below w.heap.size w w' :=
  aSeal_bad zb ⟨0, 0#64, 1, ⟨#[]⟩⟩ w (fun h => h.2.2.2.1 rfl)
theorem call17_new (w : World) : Calls Try.prog 14 #[.string ⟨#[0, 0, 0, 0, 0, 0, 0, 0, 0, 0, 0, 0, 0, 0, 0, 0]⟩, .string ⟨#[]⟩] w fun e w' => ∃ g, e = .returned (.tuple #[.pointer (some ⟨g, 0, none⟩), .int .i64 0]) ∧ w.heap.size ≤ g ∧ Gd w' g zb Gs.zero ∧ Below w.heap.size w w' := aNew_empty zb w rfl
theorem call17_open1 (g : Nat) (w : World) (h : Gd w g zb Gs.zero) : Calls Try.prog 16 #[.pointer (some ⟨g, 0, none⟩), .int .i64 1, .string t17] w fun e w' => e = .returned (.tuple #[.agg #[.int .i64 1, .int .u64 1, .int .i64 2, .string ⟨#[97, 98]⟩], .string v17, .int .i64 0]) ∧ Keep [g] w w' ∧ Gd w' g zb s17 := by
  have := aOpen_in g zb Gs.zero 1 t17 w rfl h (by omega) (by rw [t17_size]; omega) (by rw [t17_size]; omega)
  rw [show ((1 : Nat) : Int) = 1 from rfl, open17_1] at this
  exact this
theorem call17_open2 (g : Nat) (w : World) (h : Gd w g zb s17) : Calls Try.prog 16 #[.pointer (some ⟨g, 0, none⟩), .int .i64 1, .string t17] w fun e w' => e = .returned (.tuple #[.agg #[.int .i64 0, .int .u64 0, .int .i64 0, .string ⟨#[]⟩], .string ⟨#[]⟩, .int .i64 171]) ∧ Keep [g] w w' ∧ Gd w' g zb s17 := by
  have := aOpen_in g zb s17 1 t17 w rfl h (by omega) (by rw [t17_size]; omega) (by rw [t17_size]; omega)
  rw [show ((1 : Nat) : Int) = 1 from rfl, open17_2] at this
  exact this
theorem call17_open3 (g : Nat) (w : World) (h : Gd w g zb s17) : Calls Try.prog 16 #[.pointer (some ⟨g, 0, none⟩), .int .i64 2, .string t17] w fun e w' => e = .returned (.tuple #[.agg #[.int .i64 0, .int .u64 0, .int .i64 0, .string ⟨#[]⟩], .string ⟨#[]⟩, .int .i64 170]) ∧ Keep [g] w w' ∧ Gd w' g zb s17 := by
  have := aOpen_in g zb s17 2 t17 w rfl h (by omega) (by rw [t17_size]; omega) (by rw [t17_size]; omega)
  rw [show ((2 : Nat) : Int) = 2 from rfl, open17_3] at this
  exact this
theorem call17_last1 (g : Nat) (w : World) (h : Gd w g zb s17) : Calls Try.prog 17 #[.pointer (some ⟨g, 0, none⟩), .int .i64 1] w fun e w' => e = .returned (.int .u64 1) ∧ Below w.heap.size w w' := aLast_any g zb s17 1 w rfl (by omega) h
theorem call17_last2 (g : Nat) (w : World) (h : Gd w g zb s17) : Calls Try.prog 17 #[.pointer (some ⟨g, 0, none⟩), .int .i64 2] w fun e w' => e = .returned (.int .u64 0) ∧ Below w.heap.size w w' := aLast_any g zb s17 2 w rfl (by omega) h
theorem call17_rest (p cap : Nat) (w : World) (hp : p < w.heap.size) (h0 : w.cell? ⟨p, 0, none⟩ = some (.string ⟨#[]⟩)) (h1 : w.cell? ⟨p, 1, none⟩ = some (.string v17)) : Calls Try.prog 12 #[.slice (some ⟨p, 0, none⟩) 2 cap] w fun e w' => e = .returned (.tuple #[.string v17, .int .i64 1]) ∧ Below w.heap.size w w' := by
  have := aRestore_any (some ⟨p, 0, none⟩) 2 cap L17 w (by omega) (fun i hi => ⟨p, 0, rfl, hp, by
    match i, hi with
    | 0, _ => exact h0
    | 1, _ => exact h1⟩) (fun i hi => by unfold L17; split <;> first | exact Nat.zero_le _ | (rw [v17_size]; omega))
  rw [rest17] at this
  exact this
set_option maxHeartbeats 8000000 in
set_option maxRecDepth 100000 in
theorem shown17_any (w : World) : Calls Try.prog 8 #[] w fun e w' => e = .returned (.bool true) ∧ Below w.heap.size w w' := by
  have hts : t17.size = 19 := t17_size
  have HTH := Lib.hid t17_head
  have HVS := Lib.hid v17_size
  have HL := Lib.hid ((Below.refl w.heap.size w).alloc (Nat.le_refl _) (Obj.cells #[.int .i64 1, .int .u64 1, .int .i64 2, .string ⟨#[97, 98]⟩] 24))
  have HC := Lib.hid (Blk.new w [.int .i64 1, .int .u64 1, .int .i64 2, .string ⟨#[97, 98]⟩] 24)
  have H1 := Lib.hid call17_seal
  have H2 := Lib.hid call17_bad
  have H3 := Lib.hid call17_new
  have H4 := Lib.hid call17_open1
  have H5 := Lib.hid call17_open2
  have H6 := Lib.hid call17_open3
  have H7 := Lib.hid call17_last1
  have H8 := Lib.hid call17_last2
  have H9 := Lib.hid call17_rest
  generalize t17 = t at *
  generalize v17 = v at *
  generalize s17 = s at *
  have HTS := Lib.hid hts; clear hts
  go_enter Try.func8, Try.ntmps8
  go_wp2_with fail
  refine (H1.out _).mono ?_
  rintro e w1 ⟨rfl, hL⟩
  replace HL := Lib.hid (HL.out.trans (hL.mono HL.out.size))
  replace HC := Lib.hid (HC.out.below hL HC.out.lt)
  clear hL
  go_wp2_with fail
  refine (H2.out _).mono ?_
  rintro e w2 ⟨rfl, hL⟩
  replace HL := Lib.hid (HL.out.trans (hL.mono HL.out.size))
  replace HC := Lib.hid (HC.out.below hL HC.out.lt)
  clear hL
  go_wp2_with fail
  refine (H3.out _).mono ?_
  rintro e w3 ⟨g, rfl, hgl, hG, hL⟩
  have hgw : w.heap.size < g := by have := HC.out.lt; omega
  replace HL := Lib.hid (HL.out.trans (hL.mono HL.out.size))
  replace HC := Lib.hid (HC.out.below hL HC.out.lt)
  have HG := Lib.hid hG
  clear hL hG hgl
  have hts : t.size = 19 := HTS.out
  have hx : (t.extract 0 11) = ⟨#[0, 0, 0, 0, 0, 0, 0, 1, 2, 97, 98]⟩ := ba_ext _ _ HTH.out
  go_wp2_with fail
  clear hts hx
  refine (H4.out g _ HG.out).mono ?_
  rintro e w4 ⟨rfl, hK, hG⟩
  replace HL := Lib.hid (HL.out.trans (hK.toBelowAt HL.out.size (by simp; omega)))
  replace HC := Lib.hid (HC.out.keep hK (by simp; omega))
  replace HG := Lib.hid hG
  have hgl4 := hG.lt
  clear hK hG
  obtain ⟨p8, hp8⟩ : ∃ p8, p8 = w4.heap.size := ⟨_, rfl⟩
  have hcl4 := HC.out.lt
  go_wp2_with fail
  rw [← hp8]
  replace HL := Lib.hid (HL.out.alloc HL.out.size (Obj.cells #[.int .i64 1, .int .u64 1, .int .i64 2, .string ⟨#[97, 98]⟩] 24))
  replace HC := Lib.hid (HC.out.alloc (Obj.cells #[.int .i64 1, .int .u64 1, .int .i64 2, .string ⟨#[97, 98]⟩] 24))
  replace HG := Lib.hid (Blk.alloc HG.out (Obj.cells #[.int .i64 1, .int .u64 1, .int .i64 2, .string ⟨#[97, 98]⟩] 24))
  have HP := Lib.hid (Blk.new_at w4 [.int .i64 1, .int .u64 1, .int .i64 2, .string ⟨#[97, 98]⟩] 24 p8 hp8)
  have hgp : g < p8 := by omega
  clear hp8
  refine (H5.out g _ HG.out).mono ?_
  rintro e w5 ⟨rfl, hK, hG⟩
  replace HL := Lib.hid (HL.out.trans (hK.toBelowAt HL.out.size (by simp; omega)))
  replace HC := Lib.hid (HC.out.keep hK (by simp; omega))
  replace HP := Lib.hid (HP.out.keep hK (by simp; omega))
  replace HG := Lib.hid hG
  clear hK hG
  go_wp2_with fail
  replace HL := Lib.hid (HL.out.alloc HL.out.size (Obj.cells #[.int .i64 0, .int .u64 0, .int .i64 0, .string ⟨#[]⟩] 24))
  replace HC := Lib.hid (HC.out.alloc (Obj.cells #[.int .i64 0, .int .u64 0, .int .i64 0, .string ⟨#[]⟩] 24))
  replace HP := Lib.hid (HP.out.alloc (Obj.cells #[.int .i64 0, .int .u64 0, .int .i64 0, .string ⟨#[]⟩] 24))
  replace HG := Lib.hid (Blk.alloc HG.out (Obj.cells #[.int .i64 0, .int .u64 0, .int .i64 0, .string ⟨#[]⟩] 24))
  refine (H6.out g _ HG.out).mono ?_
  rintro e w6 ⟨rfl, hK, hG⟩
  replace HL := Lib.hid (HL.out.trans (hK.toBelowAt HL.out.size (by simp; omega)))
  replace HC := Lib.hid (HC.out.keep hK (by simp; omega))
  replace HP := Lib.hid (HP.out.keep hK (by simp; omega))
  replace HG := Lib.hid hG
  clear hK hG
  go_wp2_with fail
  replace HL := Lib.hid ((HL.out.alloc HL.out.size (Obj.cells #[.int .i64 0, .int .u64 0, .int .i64 0, .string ⟨#[]⟩] 24)).alloc (by have := HL.out.size; simp; omega) (Obj.cells #[.string ⟨#[]⟩, .string v] 9))
  replace HC := Lib.hid ((HC.out.alloc (Obj.cells #[.int .i64 0, .int .u64 0, .int .i64 0, .string ⟨#[]⟩] 24)).alloc (Obj.cells #[.string ⟨#[]⟩, .string v] 9))
  replace HP := Lib.hid ((HP.out.alloc (Obj.cells #[.int .i64 0, .int .u64 0, .int .i64 0, .string ⟨#[]⟩] 24)).alloc (Obj.cells #[.string ⟨#[]⟩, .string v] 9))
  replace HG := Lib.hid (Blk.alloc (Blk.alloc HG.out (Obj.cells #[.int .i64 0, .int .u64 0, .int .i64 0, .string ⟨#[]⟩] 24)) (Obj.cells #[.string ⟨#[]⟩, .string v] 9))
  have hrow := Blk.new_at (w6.alloc (Obj.cells #[.int .i64 0, .int .u64 0, .int .i64 0, .string ⟨#[]⟩] 24)) [.string ⟨#[]⟩, .string v] 9 (w6.heap.size + 1) (by simp)
  refine (H9.out (w6.heap.size + 1) _ _ hrow.lt (hrow.cell 0) (hrow.cell 1)).mono ?_
  rintro e w7 ⟨rfl, hL⟩
  replace HL := Lib.hid (HL.out.trans (hL.mono HL.out.size))
  replace HC := Lib.hid (HC.out.below hL HC.out.lt)
  replace HP := Lib.hid (HP.out.below hL HP.out.lt)
  replace HG := Lib.hid (Blk.below HG.out hL (Blk.lt HG.out))
  clear hL hrow
  have a0 := HC.out.cell 0
  have a1 := HC.out.cell 1
  have a2 := HC.out.cell 2
  have a3 := HC.out.cell 3
  simp only [List.getElem?_cons_zero, List.getElem?_cons_succ] at a0 a1 a2 a3
  have b0 := HP.out.cell 0
  have b1 := HP.out.cell 1
  have b2 := HP.out.cell 2
  have b3 := HP.out.cell 3
  simp only [List.getElem?_cons_zero, List.getElem?_cons_succ] at b0 b1 b2 b3
  have hvs : v.size = 76 := HVS.out
  go_wp2_with fail
  refine (H7.out g _ HG.out).mono ?_
  rintro e w8 ⟨rfl, hL⟩
  replace HL := Lib.hid (HL.out.trans (hL.mono HL.out.size))
  replace HG := Lib.hid (Blk.below HG.out hL (Blk.lt HG.out))
  clear hL a0 a1 a2 a3 b0 b1 b2 b3
  go_wp2_with fail
  refine (H8.out g _ HG.out).mono ?_
  rintro e w9 ⟨rfl, hL⟩
  replace HL := Lib.hid (HL.out.trans (hL.mono HL.out.size))
  clear hL
  go_wp2_with fail
  go_ret
  exact ⟨rfl, HL.out⟩
end Go.Proofs.Ytincoocagfegfaa
