/- What is proved here: the plain law of the window: what is under way leads to no lockout, and what is accepted is the next unit. No condition. -/
import Derived.Test.YtebgehmgjafblaaF5
set_option linter.unusedVariables false
set_option linter.unusedSimpArgs false
namespace Go.Proofs.Ytebgehmgjafblaa
open Go.RowKit
/-- What holds of the window's beginning b, the number n of accepted units, and the units xs that are under way. -/
structure WInv (half b n : Int) (xs : List Int) : Prop where
  b0 : 0 ≤ b
  bn : b ≤ n
  nb : n ≤ b + half
  hi : ∀ x ∈ xs, x ≤ b + half - 1
  lo : ∀ x ∈ xs, 0 ≤ x ∧ n ≤ x + half
  pw : xs.Pairwise (fun x y => x + 1 ≤ y + half)
namespace WInv
theorem start (half : Int) (h : 1 ≤ half) : WInv half 0 0 [] := ⟨by omega, by omega, by omega, by simp, by simp, .nil⟩
theorem send {half b n : Int} {xs : List Int} (h : WInv half b n xs) (k : Int) (h0 : 0 ≤ k) (h1 : k < half) : WInv half b n (xs ++ [b + k]) := by
  refine ⟨h.b0, h.bn, h.nb, ?_, ?_, ?_⟩
  · intro x hx
    rcases List.mem_append.1 hx with hx | hx
    · exact h.hi x hx
    · have := List.mem_singleton.1 hx; omega
  · intro x hx
    rcases List.mem_append.1 hx with hx | hx
    · exact h.lo x hx
    · have := List.mem_singleton.1 hx; have := h.b0; have := h.nb; omega
  · rw [List.pairwise_append]
    refine ⟨h.pw, List.pairwise_singleton _ _, ?_⟩
    intro x hx y hy
    have := h.hi x hx; have := List.mem_singleton.1 hy; omega
theorem move {half b n : Int} {xs : List Int} (h : WInv half b n xs) (j : Int) (h0 : 0 ≤ j) (h1 : j ≤ n - b) : WInv half (b + j) n xs :=
  ⟨by have := h.b0; omega, by omega, by have := h.nb; omega, fun x hx => by have := h.hi x hx; omega, h.lo, h.pw⟩
theorem tail {half b n x : Int} {xs : List Int} (h : WInv half b n (x :: xs)) : WInv half b n xs :=
  ⟨h.b0, h.bn, h.nb, fun y hy => h.hi y (List.mem_cons_of_mem _ hy), fun y hy => h.lo y (List.mem_cons_of_mem _ hy), (List.pairwise_cons.1 h.pw).2⟩
theorem head {half b n x : Int} {xs : List Int} (h : WInv half b n (x :: xs)) : 0 ≤ x ∧ n ≤ x + half ∧ x - n ≤ half - 1 := by
  have h1 := h.hi x (List.mem_cons_self)
  have h2 := h.lo x (List.mem_cons_self)
  have h3 := h.bn
  exact ⟨h2.1, h2.2, by omega⟩
theorem took {half b n : Int} {xs : List Int} (h : WInv half b n (n :: xs)) : WInv half b (n + 1) xs := by
  have h1 := h.hi n (List.mem_cons_self)
  have h3 := h.bn
  refine ⟨h.b0, by omega, by omega, fun y hy => h.hi y (List.mem_cons_of_mem _ hy), fun y hy => ?_, (List.pairwise_cons.1 h.pw).2⟩
  have := (List.pairwise_cons.1 h.pw).1 y hy
  have := h.lo y (List.mem_cons_of_mem _ hy)
  omega
end WInv
theorem take_way (half n s x : Int) (wa re room : Bool) (d : ByteArray) (h1 : 1 ≤ half) (h2 : half ≤ 127) (h3 : n ≤ x + half) (h4 : x - n ≤ half - 1) (hd : d.size = 3) :
    ∃ ok wa' re', takeF ⟨1, half, ⟨2, false, wa, re, 1, (s + n) % 256⟩⟩ ⟨1, 2, false, false, (s + x) % 256, d⟩ room = (⟨1, half, ⟨2, false, wa', re', 1, if ok then (s + (n + 1)) % 256 else (s + n) % 256⟩⟩, ok, 0) ∧ (ok = true → x = n) := by
  have hg : (Tc.mk 1 2 false false ((s + x) % 256) d).good = true := by
    rw [Tc.good_iff]; simp only; rw [hd]; exact ⟨by omega, rfl⟩
  have ha : ((s + x) % 256 - (s + n) % 256) % 256 = (x - n) % 256 := by omega
  unfold takeF
  rw [hg, ha]
  simp only [beq_self_eq_true, Bool.and_self, if_true, Bool.false_eq_true, if_false]
  unfold firstAct
  simp only [whenB, Bool.false_eq_true, if_false]
  by_cases e : x = n
  · subst e
    rw [Int.sub_self]
    cases room
    · exact ⟨false, true, true, by simp [doF], by simp⟩
    · refine ⟨true, wa, false, ?_, fun _ => rfl⟩
      simp only [doF]
      have e1 : ((s + x) % 256 + 1) % 256 = (s + (x + 1)) % 256 := by omega
      have e2 : ((s + (x + 1)) % 256 != (s + x) % 256) = true := by rw [bne_iff_ne]; omega
      simp [e1, e2]
  · have e0 : ((x - n) % 256 == 0) = false := by rw [beq_eq_false_iff_ne]; omega
    rw [e0]
    simp only [Bool.false_and, Bool.false_eq_true, if_false]
    by_cases h5 : n < x
    · rw [if_pos (by rw [decide_eq_true_eq]; omega)]
      exact ⟨false, wa, true, by simp [doF], by simp⟩
    · rw [if_neg (by rw [decide_eq_true_eq]; omega), if_pos (by rw [decide_eq_true_eq]; omega)]
      exact ⟨false, wa, re, by simp [doF], by simp⟩
end Go.Proofs.Ytebgehmgjafblaa
