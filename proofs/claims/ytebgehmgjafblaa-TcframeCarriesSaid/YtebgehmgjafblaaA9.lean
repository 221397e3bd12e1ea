/- What is proved here: what the reference's Feed answers; assemblers that New did not return. -/
import Derived.Test.YtebgehmgjafblaaA8
set_option linter.unusedVariables false
set_option linter.unusedSimpArgs false
namespace Go.Proofs.Ytebgehmgjafblaa
open Go.RowKit
set_option maxHeartbeats 4000000 in
set_option maxRecDepth 100000 in
theorem rFeed_bad (s t : ByteArray) (r : Nat) (op : Bool) (w : World) (h : segOk s.data.toList = false) (hB : Blk w r [.bool op, .string t] 53) :
    Calls Try.prog 28 #[.pointer (some ⟨r, 0, none⟩), .string s] w fun e w' => e = .returned (.tuple #[pieceV false ⟨#[]⟩ false, .int .i64 6]) ∧ Keep [r] w w' ∧ Blk w' r [.bool op, .string t] 53 := by
  have HB := Lib.hid (hB.alloc (Obj.cells #[.bool false, .string ⟨#[]⟩, .int .i64 0, .bool false] 57))
  have HK := Lib.hid ((Keep.refl [r] w).alloc (Obj.cells #[.bool false, .string ⟨#[]⟩, .int .i64 0, .bool false] 57))
  clear hB
  by_cases h1 : s.size < 2
  · have k1 : (s.size : Int) < 2 := by omega
    clear h
    go_enter Try.func28, Try.ntmps28
    go_wp2_with fail
    refine ret_cell_tmp rfl w.heap.size 57 (pieceC false ⟨#[]⟩ false) rfl (Blk.new w _ _) Try.underlying57 rfl (by kernel_rfl) rfl ?_
    exact ⟨rfl, HK.out, HB.out⟩
  · by_cases h2 : 200 < s.size
    · have k1 : ¬ ((s.size : Int) < 2) := by omega
      have k2 : (200 : Int) < s.size := by omega
      clear h
      go_enter Try.func28, Try.ntmps28
      go_wp2_with fail
      refine ret_cell_tmp rfl w.heap.size 57 (pieceC false ⟨#[]⟩ false) rfl (Blk.new w _ _) Try.underlying57 rfl (by kernel_rfl) rfl ?_
      exact ⟨rfl, HK.out, HB.out⟩
    · have k1 : ¬ ((s.size : Int) < 2) := by omega
      have k2 : ¬ ((200 : Int) < s.size) := by omega
      have k3 : (0 : Int) < s.size := by omega
      have h5 : (s[0]'(by omega)).toNat % 64 ≠ 0 := by
        simp only [segOk, decide_eq_false_iff_not, not_and] at h
        have h3 := h (by rw [← Lib.size_eq]; omega) (by rw [← Lib.size_eq]; omega)
        have h4 : s.data.toList.headD 0 = s[0]'(by omega) := by
          rw [List.headD_eq_head?_getD, List.head?_eq_getElem?]
          rw [List.getElem?_eq_getElem (by rw [← Lib.size_eq]; omega)]
          rfl
        rw [h4] at h3
        exact h3
      have k4 : (((s[0]'(by omega)).toNat : Int) % 64 != 0) = true := by
        simp only [bne_iff_ne, ne_eq]; omega
      clear h
      go_enter Try.func28, Try.ntmps28
      go_wp2_with fail
      refine ret_cell_tmp rfl w.heap.size 57 (pieceC false ⟨#[]⟩ false) rfl (Blk.new w _ _) Try.underlying57 rfl (by kernel_rfl) rfl ?_
      exact ⟨rfl, HK.out, HB.out⟩
theorem midF_len (op : Bool) (xs part : List UInt8) (h : xs.length ≤ 1030) : (midF op xs part).2.1.length ≤ 1030 := by
  unfold midF
  split
  · split
    · assumption
    · simp
  · exact h
theorem feedF_len (op : Bool) (xs s : List UInt8) (h : xs.length ≤ 1030) : (feedF op xs s).2.2.2.length ≤ 1030 := by
  unfold feedF
  split
  · rename_i hs
    have hs2 := of_decide_eq_true hs
    have hd : (s.drop 1).length ≤ 1030 := by rw [List.length_drop]; omega
    unfold stepF
    split
    · exact midF_len _ _ _ h
    · split
      · exact hd
      · split
        · split
          · simp
          · exact midF_len _ _ _ h
        · simp
  · exact h
theorem rFeed_any (s t : ByteArray) (r : Nat) (op : Bool) (xs : List UInt8) (w : World) (ht : t.size ≤ 2000) (hx : xs.length ≤ 1030) (hR : op = true → t.data.toList = xs) (hB : Blk w r [.bool op, .string t] 53) :
    Calls Try.prog 28 #[.pointer (some ⟨r, 0, none⟩), .string s] w fun e w' => e = .returned (.tuple #[pv (feedF op xs s.data.toList).1, .int .i64 (feedF op xs s.data.toList).2.1]) ∧ Keep [r] w w' ∧
      ∃ t' : ByteArray, t'.size ≤ 2000 ∧ ((feedF op xs s.data.toList).2.2.1 = true → t'.data.toList = (feedF op xs s.data.toList).2.2.2) ∧ Blk w' r [.bool (feedF op xs s.data.toList).2.2.1, .string t'] 53 := by
  cases hs : segOk s.data.toList
  · unfold feedF
    rw [hs]
    exact (rFeed_bad s t r op w hs hB).mono fun e w' ⟨h1, h2, h3⟩ => ⟨h1, h2, t, ht, hR, h3⟩
  · have hs2 : 2 ≤ s.size ∧ s.size ≤ 200 ∧ (s.data.toList.headD 0).toNat % 64 = 0 := by
      have := of_decide_eq_true hs
      rwa [← Lib.size_eq] at this
    obtain ⟨h1, h2, h3⟩ := hs2
    have h4 : s.data.toList.headD 0 = s[0]'(by omega) := by
      rw [List.headD_eq_head?_getD, List.head?_eq_getElem?, List.getElem?_eq_getElem (by rw [← Lib.size_eq]; omega)]
      rfl
    have hlt := (s[0]'(by omega)).toNat_lt
    have hpl : (s.extract 1 s.size).data.toList = s.data.toList.drop 1 := by
      simp [ByteArray.data_extract, Array.toList_extract, List.extract_eq_take_drop]
      exact List.take_of_length_le (by simp)
    have hps : (s.extract 1 s.size).size ≤ 199 := by simp; omega
    have hpt : (t ++ s.extract 1 s.size).data.toList = t.data.toList ++ (s.extract 1 s.size).data.toList := by simp
    have hpz : (t ++ s.extract 1 s.size).size = t.size + (s.extract 1 s.size).size := by simp
    unfold feedF
    rw [hs, h4]
    rw [h4] at h3
    simp only [if_true]
    have hc : (s[0]'(by omega)).toNat = 0 ∨ (s[0]'(by omega)).toNat = 64 ∨ (s[0]'(by omega)).toNat = 128 ∨ (s[0]'(by omega)).toNat = 192 := by omega
    have hself : ∀ b : ByteArray, (⟨b.data.toList.toArray⟩ : ByteArray) = b := fun b => rfl
    rcases hc with hz | hz | hz | hz
    · rw [hz, ← hpl]
      cases op
      · exact (rFeed_0n s t r w h1 h2 hz ht hB).mono fun e w' ⟨a1, a2, a3⟩ => ⟨a1, a2, t, ht, (fun h => absurd (show (false : Bool) = true from h) (by decide)), a3⟩
      · have hR := hR rfl
        have ht1 : t.size ≤ 1030 := by rw [Lib.size_eq, hR]; exact hx
        have hL : (xs ++ (s.extract 1 s.size).data.toList).length = (t ++ s.extract 1 s.size).size := by rw [← hR, ← hpt]; exact (Lib.size_eq _).symm
        by_cases hl : 1030 < (t ++ s.extract 1 s.size).size
        · have e0 : stepF true xs (s.extract 1 s.size).data.toList (0 / 64) = ((false, [], true), false, []) := by
            show ((false, [], (midF true xs _).2.2), (midF true xs _).1, (midF true xs _).2.1) = _
            have : midF true xs (s.extract 1 s.size).data.toList = (false, [], true) := by
              unfold midF; rw [if_pos rfl, if_neg (by omega)]
            rw [this]
          rw [e0]
          exact (rFeed_0l s t r w h1 h2 hz hl ht hB).mono fun e w' ⟨a1, a2, a3⟩ => ⟨a1, a2, _, by omega, (fun h => absurd (show (false : Bool) = true from h) (by decide)), a3⟩
        · have e0 : stepF true xs (s.extract 1 s.size).data.toList (0 / 64) = ((false, [], false), true, xs ++ (s.extract 1 s.size).data.toList) := by
            show ((false, [], (midF true xs _).2.2), (midF true xs _).1, (midF true xs _).2.1) = _
            have : midF true xs (s.extract 1 s.size).data.toList = (true, xs ++ (s.extract 1 s.size).data.toList, false) := by
              unfold midF; rw [if_pos rfl, if_pos (by omega)]
            rw [this]
          rw [e0]
          exact (rFeed_0s s t r w h1 h2 hz hl ht hB).mono fun e w' ⟨a1, a2, a3⟩ => ⟨a1, a2, _, by omega, (fun _ => by rw [hpt, hR]), a3⟩
    · rw [hz, ← hpl]
      exact (rFeed_64 s t r op w h1 h2 hz ht hB).mono fun e w' ⟨a1, a2, a3⟩ => ⟨a1, a2, _, by omega, (fun _ => rfl), a3⟩
    · rw [hz, ← hpl]
      cases op
      · exact (rFeed_128n s t r w h1 h2 hz ht hB).mono fun e w' ⟨a1, a2, a3⟩ => ⟨a1, a2, t, ht, (fun h => absurd (show (false : Bool) = true from h) (by decide)), a3⟩
      · have hR := hR rfl
        have ht1 : t.size ≤ 1030 := by rw [Lib.size_eq, hR]; exact hx
        have hL : (xs ++ (s.extract 1 s.size).data.toList).length = (t ++ s.extract 1 s.size).size := by rw [← hR, ← hpt]; exact (Lib.size_eq _).symm
        by_cases hl : 1030 < (t ++ s.extract 1 s.size).size
        · have e0 : stepF true xs (s.extract 1 s.size).data.toList (128 / 64) = ((false, [], true), false, []) := by
            show (if (midF true xs _).1 then ((true, (midF true xs _).2.1, false), false, []) else ((false, [], (midF true xs _).2.2), false, (midF true xs _).2.1)) = _
            have : midF true xs (s.extract 1 s.size).data.toList = (false, [], true) := by
              unfold midF; rw [if_pos rfl, if_neg (by omega)]
            rw [this]; rfl
          rw [e0]
          exact (rFeed_128l s t r w h1 h2 hz hl ht hB).mono fun e w' ⟨a1, a2, a3⟩ => ⟨a1, a2, _, by omega, (fun h => absurd (show (false : Bool) = true from h) (by decide)), a3⟩
        · have e0 : stepF true xs (s.extract 1 s.size).data.toList (128 / 64) = ((true, (t ++ s.extract 1 s.size).data.toList, false), false, []) := by
            show (if (midF true xs _).1 then ((true, (midF true xs _).2.1, false), false, []) else ((false, [], (midF true xs _).2.2), false, (midF true xs _).2.1)) = _
            have : midF true xs (s.extract 1 s.size).data.toList = (true, xs ++ (s.extract 1 s.size).data.toList, false) := by
              unfold midF; rw [if_pos rfl, if_pos (by omega)]
            rw [this, hpt, hR]; rfl
          rw [e0]
          exact (rFeed_128s s t r w h1 h2 hz hl ht hB).mono fun e w' ⟨a1, a2, a3⟩ => ⟨a1, a2, _, by omega, (fun h => absurd (show (false : Bool) = true from h) (by decide)), a3⟩
    · rw [hz, ← hpl]
      exact (rFeed_192 s t r op w h1 h2 hz ht hB).mono fun e w' ⟨a1, a2, a3⟩ => ⟨a1, a2, _, by omega, (fun h => absurd (show (false : Bool) = true from h) (by decide)), a3⟩
set_option maxHeartbeats 4000000 in
set_option maxRecDepth 100000 in
theorem Feed_nil (s : ByteArray) (w : World) : Calls Try.prog 27 #[.pointer none, .string s] w fun e w' => e = .returned (.tuple #[pieceV false ⟨#[]⟩ false, .int .i64 1]) ∧ Below w.heap.size w w' := by
  go_enter Try.func27, Try.ntmps27
  go_wp2_with fail
  refine ret_cell_tmp rfl w.heap.size 57 (pieceC false ⟨#[]⟩ false) rfl (Blk.new w _ _) Try.underlying57 rfl (by kernel_rfl) rfl ?_
  exact ⟨rfl, (Below.refl _ _).alloc (Nat.le_refl _) _⟩
set_option maxHeartbeats 4000000 in
set_option maxRecDepth 100000 in
theorem Feed_unmade (s : ByteArray) (z : Nat) (w : World) (hB : Blk w z [.bool false, .bool false, .slice none 0 0] 55) : Calls Try.prog 27 #[.pointer (some ⟨z, 0, none⟩), .string s] w fun e w' => e = .returned (.tuple #[pieceV false ⟨#[]⟩ false, .int .i64 1]) ∧ Below w.heap.size w w' := by
  have HB := Lib.hid (hB.alloc (Obj.cells #[.bool false, .string ⟨#[]⟩, .int .i64 0, .bool false] 57))
  clear hB
  have b0 := HB.out.cell 0
  have b1 := HB.out.cell 1
  have b2 := HB.out.cell 2
  simp only [List.getElem?_cons_zero, List.getElem?_cons_succ] at b0 b1 b2
  go_enter Try.func27, Try.ntmps27
  go_wp2_with fail
  refine ret_cell_tmp rfl w.heap.size 57 (pieceC false ⟨#[]⟩ false) rfl (Blk.new w _ _) Try.underlying57 rfl (by kernel_rfl) rfl ?_
  exact ⟨rfl, (Below.refl _ _).alloc (Nat.le_refl _) _⟩
end Go.Proofs.Ytebgehmgjafblaa
