/- What is proved here: the walks of New and Last of guards. -/
import Derived.Test.YtincoocagfegfaaU6
import Derived.Test.YtincoocagfegfaaCl
set_option linter.unusedVariables false
set_option linter.unusedSimpArgs false
namespace Go.Proofs.Ytincoocagfegfaa
open Go.RowKit
theorem Gd.below {W W' : World} {g B : Nat} {key : ByteArray} {s : Gs} (h : Gd W g key s) (k : Below B W W') (hg : g < B) : Gd W' g key s := Blk.below h k hg
theorem Gd.lt {W : World} {g : Nat} {key : ByteArray} {s : Gs} (h : Gd W g key s) : g < W.heap.size := Blk.lt h
set_option maxHeartbeats 2000000 in
set_option maxRecDepth 100000 in
theorem aNew_key (key t : ByteArray) (w : World) (hk : key.size ≠ 16) : Calls Try.prog 14 #[.string key, .string t] w fun e w' => e = .returned (.tuple #[.pointer none, .int .i64 2]) ∧ Below w.heap.size w w' := by
  have d0 : ((key.size : Int) != 16) = true := by rw [bne_iff_ne]; omega
  clear hk
  go_enter Try.func14, Try.ntmps14
  go_wp2_with fail
  go_ret2
  exact ⟨rfl, Below.refl _ _⟩
set_option maxHeartbeats 2000000 in
set_option maxRecDepth 100000 in
theorem aNew_empty (key : ByteArray) (w : World) (hk : key.size = 16) : Calls Try.prog 14 #[.string key, .string ⟨#[]⟩] w fun e w' => ∃ g, e = .returned (.tuple #[.pointer (some ⟨g, 0, none⟩), .int .i64 0]) ∧ w.heap.size ≤ g ∧ Gd w' g key Gs.zero ∧ Below w.heap.size w w' := by
  have d0 : ((key.size : Int) != 16) = false := by rw [hk]; rfl
  have HC := Lib.hid (fun w => Clone_any key w (by omega))
  clear hk
  go_enter Try.func14, Try.ntmps14
  go_wp2_with fail
  refine (HC.out _).mono ?_
  rintro e w1 ⟨rfl, hL⟩
  have HL := Lib.hid hL; clear hL
  go_wp2_with fail
  go_ret2
  exact ⟨_, rfl, HL.out.size, Blk.new w1 (.string key :: Gs.zero.cells) 45, HL.out.alloc HL.out.size _⟩
set_option maxHeartbeats 4000000 in
set_option maxRecDepth 100000 in
theorem aNew_text (key t : ByteArray) (w : World) (hk : key.size = 16) (ht0 : t.size ≠ 0) (ht : t.size ≤ 1000000) : Calls Try.prog 14 #[.string key, .string t] w fun e w' => Below w.heap.size w w' ∧
    if isSaved t.data.toList = true then ∃ g, e = .returned (.tuple #[.pointer (some ⟨g, 0, none⟩), .int .i64 0]) ∧ w.heap.size ≤ g ∧ Gd w' g key (readL t.data.toList) else e = .returned (.tuple #[.pointer none, .int .i64 6]) := by
  have d0 : ((key.size : Int) != 16) = false := by rw [hk]; rfl
  have hne : t.toList.isEmpty = false := by
    rw [toList_data]
    cases hd : t.data.toList with
    | nil =>
      have : t.data.toList.length = t.size := by simp
      rw [hd] at this; simp at this; omega
    | cons a l => rfl
  have HC := Lib.hid (fun w => Clone_any key w (by omega))
  have hsv := fun w => asaved_any t w ht
  cases hs : isSaved t.data.toList
  · have hv : ∃ s : Gs, savedV t.data.toList = .tuple #[s.val, .bool false] := by
      unfold savedV
      unfold isSaved at hs
      by_cases h : t.data.toList.length = 76
      · rw [if_pos h]
        refine ⟨readL t.data.toList, ?_⟩
        rw [show (textL (readL t.data.toList) == t.data.toList) = false by simpa [h] using hs]
      · rw [if_neg h]; exact ⟨Gs.zero, rfl⟩
    obtain ⟨s, hv⟩ := hv
    rw [hv] at hsv
    simp only [Gs.val, vu] at hsv
    have HS := Lib.hid hsv
    clear hk ht0 ht hs hv hsv
    simp only [Bool.false_eq_true, if_false]
    go_enter Try.func14, Try.ntmps14
    go_wp2_with fail
    refine (HC.out _).mono ?_
    rintro e w1 ⟨rfl, hL⟩
    have HL := Lib.hid hL; clear hL
    go_wp2_with fail
    refine (HS.out _).mono ?_
    rintro e w2 ⟨rfl, hL⟩
    replace HL := Lib.hid ((HL.out.alloc HL.out.size (Obj.cells #[.string key, .int .u64 0, .int .u64 0, .int .u64 0, .int .u64 0, .int .u64 0, .int .u64 0, .int .u64 0, .int .u64 0, .int .u64 0] 45)).trans (hL.mono (by have := HL.out.size; simp; omega)))
    clear hL
    go_wp2_with fail
    go_ret2
    exact ⟨HL.out.alloc HL.out.size _, by rfl⟩
  · have hv : savedV t.data.toList = .tuple #[(readL t.data.toList).val, .bool true] := by
      unfold isSaved at hs
      simp only [Bool.and_eq_true, decide_eq_true_eq] at hs
      unfold savedV
      rw [if_pos hs.1, hs.2]
    obtain ⟨s, hsd⟩ : ∃ s, s = readL t.data.toList := ⟨_, rfl⟩
    rw [hv, ← hsd] at hsv
    rw [← hsd]
    simp only [Gs.val, vu] at hsv
    have HS := Lib.hid hsv
    clear hk ht0 ht hs hv hsv hsd
    simp only [if_true]
    go_enter Try.func14, Try.ntmps14
    go_wp2_with fail
    refine (HC.out _).mono ?_
    rintro e w1 ⟨rfl, hL⟩
    have HL := Lib.hid hL; clear hL
    have hl1 := HL.out.size
    go_wp2_with fail
    refine (HS.out _).mono ?_
    rintro e w2 ⟨rfl, hL⟩
    obtain ⟨g, hg⟩ : ∃ g, g = w1.heap.size := ⟨_, rfl⟩
    have hB := (Blk.new_at w1 [.string key, .int .u64 0, .int .u64 0, .int .u64 0, .int .u64 0, .int .u64 0, .int .u64 0, .int .u64 0, .int .u64 0, .int .u64 0] 45 g hg).below hL (by simp; omega)
    rw [← hg] at hl1 ⊢
    replace HL := Lib.hid ((HL.out.alloc HL.out.size (Obj.cells #[.string key, .int .u64 0, .int .u64 0, .int .u64 0, .int .u64 0, .int .u64 0, .int .u64 0, .int .u64 0, .int .u64 0, .int .u64 0] 45)).trans (hL.mono (by have := HL.out.size; simp; omega)))
    have HB := Lib.hid hB
    have hgl := hB.lt
    clear hL hB hg
    have x0 := HB.out.cell 0
    have x1 := HB.out.cell 1
    have x2 := HB.out.cell 2
    have x3 := HB.out.cell 3
    have x4 := HB.out.cell 4
    have x5 := HB.out.cell 5
    have x6 := HB.out.cell 6
    have x7 := HB.out.cell 7
    have x8 := HB.out.cell 8
    have x9 := HB.out.cell 9
    simp only [List.getElem?_cons_zero, List.getElem?_cons_succ] at x0 x1 x2 x3 x4 x5 x6 x7 x8 x9
    have f0 := HB.out.free 0
    have f1 := HB.out.free 1
    have f2 := HB.out.free 2
    have f3 := HB.out.free 3
    have f4 := HB.out.free 4
    have f5 := HB.out.free 5
    have f6 := HB.out.free 6
    have f7 := HB.out.free 7
    have f8 := HB.out.free 8
    have f9 := HB.out.free 9
    have hgn : g ≠ w2.heap.size := by omega
    go_wp2_with fail
    go_ret2
    exact ⟨(((((((((HL.out.setCell (hl1) _).setCell (hl1) _).setCell (hl1) _).setCell (hl1) _).setCell (hl1) _).setCell (hl1) _).setCell (hl1) _).setCell (hl1) _).setCell (hl1) _).alloc (by simp; omega) _, g, rfl, hl1, (((((((((HB.out.set 1 _).set 2 _).set 3 _).set 4 _).set 5 _).set 6 _).set 7 _).set 8 _).set 9 _).alloc _⟩
set_option maxHeartbeats 2000000 in
set_option maxRecDepth 100000 in
theorem aLast_any (g : Nat) (key : ByteArray) (s : Gs) (c : Nat) (w : World) (hk : key.size = 16) (hc : c < 8) (hB : Gd w g key s) : Calls Try.prog 17 #[.pointer (some ⟨g, 0, none⟩), .int .i64 (c : Int)] w fun e w' => e = .returned (vu (s.l c)) ∧ Below w.heap.size w w' := by
  have HN := Lib.hid (anone_any g key s w hB)
  rw [not_empty key hk] at HN
  have c0 : w.cell? ⟨g, 2 + c, none⟩ = some (vu (s.l c)) := by
    rw [Blk.cell hB (2 + c)]
    match c, hc with
    | 0, _ => rfl
    | 1, _ => rfl
    | 2, _ => rfl
    | 3, _ => rfl
    | 4, _ => rfl
    | 5, _ => rfl
    | 6, _ => rfl
    | 7, _ => rfl
  clear hB hk
  go_enter Try.func17, Try.ntmps17
  go_wp2_with fail
  refine HN.out.mono ?_
  rintro e _ ⟨rfl, rfl⟩
  go_wp2_with fail
  go_ret
  exact ⟨rfl, Below.refl _ _⟩
set_option maxHeartbeats 2000000 in
set_option maxRecDepth 100000 in
theorem aLast_idle (v : Value) (c : Int) (w : World) (hN : Calls Try.prog 26 #[v] w fun e w' => e = .returned (.bool true) ∧ w = w') : Calls Try.prog 17 #[v, .int .i64 c] w fun e w' => e = .returned (.int .u64 0) ∧ Below w.heap.size w w' := by
  have HN := Lib.hid hN; clear hN
  go_enter Try.func17, Try.ntmps17
  go_wp2_with fail
  refine HN.out.mono ?_
  rintro e _ ⟨rfl, rfl⟩
  go_wp2_with fail
  go_ret
  exact ⟨rfl, Below.refl _ _⟩
end Go.Proofs.Ytincoocagfegfaa
