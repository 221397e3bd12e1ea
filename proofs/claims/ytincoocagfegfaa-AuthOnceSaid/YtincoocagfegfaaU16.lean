/- What is proved here: the walks of the reference's New, and what New answers. -/
import Derived.Test.YtincoocagfegfaaU15
import Derived.Test.YtincoocagfegfaaU7
set_option linter.unusedVariables false
set_option linter.unusedSimpArgs false
namespace Go.Proofs.Ytincoocagfegfaa
open Go.RowKit
set_option maxHeartbeats 2000000 in
set_option maxRecDepth 100000 in
theorem qNew_key (key t : ByteArray) (w : World) (hk : key.size ≠ 16) : Calls Try.prog 15 #[.string key, .string t] w fun e w' => e = .returned (.tuple #[.pointer none, .int .i64 2]) ∧ Below w.heap.size w w' := by
  have d0 : ((key.size : Int) != 16) = true := by rw [bne_iff_ne]; omega
  clear hk
  go_enter Try.func15, Try.ntmps15
  go_wp2_with fail
  go_ret2
  exact ⟨rfl, Below.refl _ _⟩
set_option maxHeartbeats 2000000 in
set_option maxRecDepth 100000 in
theorem qNew_empty (key : ByteArray) (w : World) (hk : key.size = 16) : Calls Try.prog 15 #[.string key, .string ⟨#[]⟩] w fun e w' => ∃ g, e = .returned (.tuple #[.pointer (some ⟨g, 0, none⟩), .int .i64 0]) ∧ w.heap.size ≤ g ∧ Qd w' g key Gs.zero ∧ Below w.heap.size w w' := by
  have d0 : ((key.size : Int) != 16) = false := by rw [hk]; rfl
  clear hk
  go_enter Try.func15, Try.ntmps15
  go_wp2_with fail
  go_ret2
  exact ⟨_, rfl, Nat.le_refl _, Blk.new w (.string key :: Gs.zero.cells) 67, (Below.refl _ _).alloc (Nat.le_refl _) _⟩
set_option maxHeartbeats 4000000 in
set_option maxRecDepth 100000 in
theorem qNew_text (key t : ByteArray) (w : World) (hk : key.size = 16) (ht0 : t.size ≠ 0) : Calls Try.prog 15 #[.string key, .string t] w fun e w' => Below w.heap.size w w' ∧
    if isSaved t.data.toList = true then ∃ g, e = .returned (.tuple #[.pointer (some ⟨g, 0, none⟩), .int .i64 0]) ∧ w.heap.size ≤ g ∧ Qd w' g key (readL t.data.toList) else e = .returned (.tuple #[.pointer none, .int .i64 6]) := by
  have d0 : ((key.size : Int) != 16) = false := by rw [hk]; rfl
  have hne : t.toList.isEmpty = false := by
    rw [toList_data]
    cases hd : t.data.toList with
    | nil =>
      have : t.data.toList.length = t.size := by simp
      rw [hd] at this; simp at this; omega
    | cons a l => rfl
  by_cases h76 : t.size = 76
  · have HR := Lib.hid (fun w => qread_any t w h76)
    obtain ⟨s, hs⟩ : ∃ s, s = readL t.data.toList := ⟨_, rfl⟩
    obtain ⟨b, hb⟩ : ∃ b, b = isSaved t.data.toList := ⟨_, rfl⟩
    rw [← hs, ← hb] at HR ⊢
    clear hk ht0 h76 hs hb
    cases b
    · simp only [Bool.false_eq_true, if_false]
      go_enter Try.func15, Try.ntmps15
      go_wp2_with fail
      refine (HR.out _).mono ?_
      rintro e w1 ⟨g, rfl, hg, -, hL⟩
      have HL := Lib.hid hL; clear hL
      go_wp2_with fail
      go_ret2
      exact ⟨HL.out, rfl⟩
    · simp only [if_true]
      go_enter Try.func15, Try.ntmps15
      go_wp2_with fail
      refine (HR.out _).mono ?_
      rintro e w1 ⟨g, rfl, hg, hB, hL⟩
      have HL := Lib.hid hL; have HB := Lib.hid (show Blk _ _ _ _ from hB); clear hL hB
      have b0 := HB.out.cell 0
      simp only [List.getElem?_cons_zero] at b0
      have f0 := HB.out.free 0
      go_wp2_with fail
      go_ret2
      exact ⟨HL.out.setCell hg _, g, rfl, hg, HB.out.set 0 _⟩
  · have HR := Lib.hid (fun w => qread_short t w h76)
    have hf : isSaved t.data.toList = false := by
      unfold isSaved
      rw [decide_eq_false (by simpa using h76), Bool.false_and]
    rw [hf]
    simp only [Bool.false_eq_true, if_false]
    clear hk ht0 h76 hf
    go_enter Try.func15, Try.ntmps15
    go_wp2_with fail
    refine (HR.out _).mono ?_
    rintro e w1 ⟨rfl, hL⟩
    have HL := Lib.hid hL; clear hL
    go_wp2_with fail
    go_ret2
    exact ⟨HL.out, rfl⟩
/-- What New with a good key answers about a text: the error. -/
def newE (t : ByteArray) : Int := if t.size = 0 then 0 else if isSaved t.data.toList = true then 0 else 6
theorem empty_of (t : ByteArray) (h : t.size = 0) : t = ⟨#[]⟩ := by
  obtain ⟨⟨l⟩⟩ := t
  cases l with
  | nil => rfl
  | cons a l => exact absurd h (by show ¬ (l.length + 1 = 0); omega)
theorem aNew_err (key t : ByteArray) (w : World) (hk : key.size = 16) (ht : t.size ≤ 1000000) : Calls Try.prog 14 #[.string key, .string t] w fun e w' => ∃ p, e = .returned (.tuple #[.pointer p, .int .i64 (newE t)]) ∧ Below w.heap.size w w' := by
  by_cases h0 : t.size = 0
  · obtain rfl := empty_of t h0
    refine (aNew_empty key w hk).mono ?_
    rintro e w1 ⟨g, rfl, -, -, hL⟩
    exact ⟨_, rfl, hL⟩
  · refine (aNew_text key t w hk h0 ht).mono ?_
    rintro e w1 ⟨hL, h⟩
    unfold newE
    rw [if_neg h0]
    split at h
    · rename_i hh
      obtain ⟨g, rfl, -⟩ := h
      rw [if_pos hh]
      exact ⟨_, rfl, hL⟩
    · rename_i hh
      obtain rfl := h
      rw [if_neg hh]
      exact ⟨_, rfl, hL⟩
theorem qNew_err (key t : ByteArray) (w : World) (hk : key.size = 16) : Calls Try.prog 15 #[.string key, .string t] w fun e w' => ∃ p, e = .returned (.tuple #[.pointer p, .int .i64 (newE t)]) ∧ Below w.heap.size w w' := by
  by_cases h0 : t.size = 0
  · obtain rfl := empty_of t h0
    refine (qNew_empty key w hk).mono ?_
    rintro e w1 ⟨g, rfl, -, -, hL⟩
    exact ⟨_, rfl, hL⟩
  · refine (qNew_text key t w hk h0).mono ?_
    rintro e w1 ⟨hL, h⟩
    unfold newE
    rw [if_neg h0]
    split at h
    · rename_i hh
      obtain ⟨g, rfl, -⟩ := h
      rw [if_pos hh]
      exact ⟨_, rfl, hL⟩
    · rename_i hh
      obtain rfl := h
      rw [if_neg hh]
      exact ⟨_, rfl, hL⟩
end Go.Proofs.Ytincoocagfegfaa
