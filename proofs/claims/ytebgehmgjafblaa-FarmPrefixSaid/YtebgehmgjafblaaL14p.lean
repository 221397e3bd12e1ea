/- What is proved here: what Take can do, case by case. No program in sight. -/
import Derived.Test.YtebgehmgjafblaaF5
set_option linter.unusedVariables false
set_option linter.unusedSimpArgs false
namespace Go.Proofs.Ytebgehmgjafblaa
open Go.RowKit
theorem dataV_ok (l : List UInt8) (h : (dataV l).2.2 = true) : l = [0] ∨ ∃ n, l = [130, 0, n] := by
  match l with
  | [] => simp [dataV] at h
  | [a] =>
    by_cases e : a = 0
    · left; rw [e]
    · simp [dataV, e] at h
  | [a, b] => simp [dataV] at h
  | [a, b, n] =>
    by_cases e : a = 130 ∧ b = 0
    · right; exact ⟨n, by rw [e.1, e.2]⟩
    · simp [dataV, e] at h
  | _ :: _ :: _ :: _ :: _ => simp [dataV] at h
theorem next_ne (n : Int) (h0 : 0 ≤ n) (h1 : n ≤ 255) : ((n + 1) % 256 != n) = true := by
  simp only [bne_iff_ne, ne_eq]; omega
/-- What Take can do. -/
theorem take_split (cr hf fc : Int) (lo wa re : Bool) (by_ nx : Int) (c ch : Int) (b k : Bool) (s : Int) (d : ByteArray) (room : Bool) (hok : (Fm.mk cr hf ⟨fc, lo, wa, re, by_, nx⟩).ok) :
    (∃ er : Int, (er = 2 ∨ er = 6) ∧ takeF ⟨cr, hf, ⟨fc, lo, wa, re, by_, nx⟩⟩ ⟨c, ch, b, k, s, d⟩ room = (⟨cr, hf, ⟨fc, lo, wa, re, by_, nx⟩⟩, false, er)) ∨
    (b = true ∧ k = true ∧ d = ⟨#[0]⟩ ∧ takeF ⟨cr, hf, ⟨fc, lo, wa, re, by_, nx⟩⟩ ⟨c, ch, b, k, s, d⟩ room = (⟨cr, hf, ⟨fc, false, false, false, (by_ + 1) % 4, nx⟩⟩, false, 0)) ∨
    (∃ m : UInt8, b = true ∧ k = true ∧ d = ⟨#[130, 0, m]⟩ ∧ lo = true ∧ takeF ⟨cr, hf, ⟨fc, lo, wa, re, by_, nx⟩⟩ ⟨c, ch, b, k, s, d⟩ room = (⟨cr, hf, ⟨fc, true, wa, re, (by_ + 1) % 4, nx⟩⟩, false, 0)) ∨
    (∃ m : UInt8, b = true ∧ k = true ∧ d = ⟨#[130, 0, m]⟩ ∧ lo = false ∧ takeF ⟨cr, hf, ⟨fc, lo, wa, re, by_, nx⟩⟩ ⟨c, ch, b, k, s, d⟩ room = (⟨cr, hf, ⟨fc, false, false, false, (by_ + 1) % 4, m.toNat⟩⟩, false, 0)) ∨
    (b = true ∧ k = false ∧ takeF ⟨cr, hf, ⟨fc, lo, wa, re, by_, nx⟩⟩ ⟨c, ch, b, k, s, d⟩ room = (⟨cr, hf, ⟨fc, lo, wa, re, (by_ + 1) % 4, nx⟩⟩, true, 0)) ∨
    (b = false ∧ k = false ∧ lo = true ∧ takeF ⟨cr, hf, ⟨fc, lo, wa, re, by_, nx⟩⟩ ⟨c, ch, b, k, s, d⟩ room = (⟨cr, hf, ⟨fc, lo, wa, re, by_, nx⟩⟩, false, 0)) ∨
    (b = false ∧ k = false ∧ lo = false ∧ room = true ∧ s = nx ∧ takeF ⟨cr, hf, ⟨fc, lo, wa, re, by_, nx⟩⟩ ⟨c, ch, b, k, s, d⟩ room = (⟨cr, hf, ⟨fc, lo, wa, false, by_, (nx + 1) % 256⟩⟩, true, 0)) ∨
    (∃ lo' wa' re' : Bool, b = false ∧ k = false ∧ lo = false ∧ takeF ⟨cr, hf, ⟨fc, lo, wa, re, by_, nx⟩⟩ ⟨c, ch, b, k, s, d⟩ room = (⟨cr, hf, ⟨fc, lo', wa', re', by_, nx⟩⟩, false, 0)) := by
  obtain ⟨k1, k2, k3, k4, k5, k6⟩ := hok
  simp only at k1 k2 k3 k4 k5 k6
  cases hg : ((Tc.mk c ch b k s d).good && (c == cr) && (ch == fc))
  · refine .inl ⟨2, .inl rfl, ?_⟩
    unfold takeF
    rw [if_neg (by rw [hg]; simp)]
  · have hgg : (Tc.mk c ch b k s d).good = true := by
      simp only [Bool.and_eq_true] at hg; exact hg.1.1
    have hgd := (Tc.good_iff _).1 hgg
    simp only at hgd
    have ht : takeF ⟨cr, hf, ⟨fc, lo, wa, re, by_, nx⟩⟩ ⟨c, ch, b, k, s, d⟩ room = if b then bypassF ⟨cr, hf, ⟨fc, lo, wa, re, by_, nx⟩⟩ ⟨c, ch, b, k, s, d⟩ else (doF ⟨cr, hf, ⟨fc, lo, wa, re, by_, nx⟩⟩ (firstAct ⟨cr, hf, ⟨fc, lo, wa, re, by_, nx⟩⟩ ((s - nx) % 256) room), (doF ⟨cr, hf, ⟨fc, lo, wa, re, by_, nx⟩⟩ (firstAct ⟨cr, hf, ⟨fc, lo, wa, re, by_, nx⟩⟩ ((s - nx) % 256) room)).st.next != nx, 0) := by
      unfold takeF; rw [if_pos hg]
    rw [ht]
    cases b
    · have hk : k = false := by simpa using hgd.2
      subst hk
      rw [if_neg (by simp)]
      cases lo
      · by_cases ha : (s - nx) % 256 = 0
        · have hs : s = nx := by omega
          cases room
          · have hfa : firstAct ⟨cr, hf, ⟨fc, false, wa, re, by_, nx⟩⟩ ((s - nx) % 256) false = 2 := by
              unfold firstAct whenB; simp [ha]
            rw [hfa]
            exact .inr (.inr (.inr (.inr (.inr (.inr (.inr ⟨false, true, true, rfl, rfl, rfl, by simp [doF]⟩))))))
          · have hfa : firstAct ⟨cr, hf, ⟨fc, false, wa, re, by_, nx⟩⟩ ((s - nx) % 256) true = 1 := by
              unfold firstAct whenB; simp [ha]
            rw [hfa]
            exact .inr (.inr (.inr (.inr (.inr (.inr (.inl ⟨rfl, rfl, rfl, rfl, hs, by simp only [doF]; rw [next_ne nx k5 k6]⟩))))))
        · have h1 : ((s - nx) % 256 == 0) = false := by simpa using ha
          have hfa : firstAct ⟨cr, hf, ⟨fc, false, wa, re, by_, nx⟩⟩ ((s - nx) % 256) room = if (s - nx) % 256 < hf then 3 else if 256 - hf ≤ (s - nx) % 256 then 4 else 5 := by
            unfold firstAct whenB; simp [h1]
          rw [hfa]
          refine .inr (.inr (.inr (.inr (.inr (.inr (.inr ?_))))))
          split
          · exact ⟨false, wa, true, rfl, rfl, rfl, by simp [doF]⟩
          · split
            · exact ⟨false, wa, re, rfl, rfl, rfl, by simp [doF]⟩
            · exact ⟨true, wa, re, rfl, rfl, rfl, by simp [doF]⟩
      · have hfa : firstAct ⟨cr, hf, ⟨fc, true, wa, re, by_, nx⟩⟩ ((s - nx) % 256) room = 0 := by
          unfold firstAct whenB; simp
        rw [hfa]
        exact .inr (.inr (.inr (.inr (.inr (.inl ⟨rfl, rfl, rfl, by simp [doF]⟩)))))
    · rw [if_pos rfl]
      cases k
      · exact .inr (.inr (.inr (.inr (.inl ⟨rfl, rfl, by simp [bypassF]⟩))))
      · have h3 : (Tc.mk c ch true true s d).ctl3 = dataV d.data.toList := by unfold Tc.ctl3; rw [hgg]; rfl
        unfold bypassF
        rw [h3]
        cases ho : (dataV d.data.toList).2.2
        · exact .inl ⟨6, .inr rfl, by simp⟩
        · rcases dataV_ok _ ho with h | ⟨m, h⟩
          · have hd : d = ⟨#[0]⟩ := by obtain ⟨⟨l⟩⟩ := d; simp only at h; rw [h]
            rw [h, show dataV [0] = (true, 0, true) from rfl]
            exact .inr (.inl ⟨rfl, rfl, hd, by simp⟩)
          · have hd : d = ⟨#[130, 0, m]⟩ := by obtain ⟨⟨l⟩⟩ := d; simp only at h; rw [h]
            rw [h, dataV_three]
            cases lo
            · exact .inr (.inr (.inr (.inl ⟨m, rfl, rfl, hd, rfl, by simp⟩)))
            · exact .inr (.inr (.inl ⟨m, rfl, rfl, hd, rfl, by simp⟩))
end Go.Proofs.Ytebgehmgjafblaa
