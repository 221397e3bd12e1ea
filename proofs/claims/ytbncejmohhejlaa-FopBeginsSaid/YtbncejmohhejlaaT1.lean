/- What is proved here: walks of the two functions that say whether a frame is valid. -/
import Derived.Test.YtbncejmohhejlaaO14
set_option linter.unusedVariables false
set_option linter.unusedSimpArgs false
namespace Go.Proofs.Ytbncejmohhejlaa
open Go.RowKit
def Tc.good (x : Tc) : Bool := decide (0 ≤ x.craft ∧ x.craft ≤ 255 ∧ 0 ≤ x.seq ∧ x.seq ≤ 255 ∧ 0 ≤ x.chan ∧ x.chan ≤ 7 ∧ 1 ≤ x.data.size ∧ x.data.size ≤ 200) && (x.byp || !x.ctl)
theorem Tc.good_iff (x : Tc) : x.good = true ↔ (0 ≤ x.craft ∧ x.craft ≤ 255 ∧ 0 ≤ x.seq ∧ x.seq ≤ 255 ∧ 0 ≤ x.chan ∧ x.chan ≤ 7 ∧ 1 ≤ x.data.size ∧ x.data.size ≤ 200) ∧ (x.byp || !x.ctl) = true := by
  simp [Tc.good]
theorem empty_of (d : ByteArray) (h : d.size = 0) : d.toList.isEmpty = true := by
  rw [toList_data]
  have : d.data.toList = [] := List.eq_nil_of_length_eq_zero (by simpa using h)
  rw [this]; rfl
theorem empty_eq (d : ByteArray) (h : d.size = 0) : d.toList = [] := by
  rw [toList_data]
  exact List.eq_nil_of_length_eq_zero (by simpa using h)
theorem not_empty_eq (d : ByteArray) (h : 1 ≤ d.size) : ¬ d.toList = [] := by
  rw [toList_data]
  intro e
  have : d.data.toList.length = d.size := by simp
  rw [e] at this; simp at this; omega
theorem not_empty_of (d : ByteArray) (h : 1 ≤ d.size) : d.toList.isEmpty = false := by
  rw [toList_data]
  cases hd : d.data.toList with
  | nil =>
    have : d.data.toList.length = d.size := by simp
    rw [hd] at this; simp at this; omega
  | cons a l => rfl
set_option maxHeartbeats 4000000 in
set_option maxRecDepth 100000 in
theorem valid_any (x : Tc) (w : World) : Calls Try.prog 61 #[x.val] w fun e w' => e = .returned (.bool x.good) ∧ Below w.heap.size w w' := by
  obtain ⟨c, ch, b, k, s, d⟩ := x
  simp only [Tc.val]
  by_cases h0 : 0 ≤ c
  case neg =>
    have hg : Tc.good ⟨c, ch, b, k, s, d⟩ = false := by
      rw [Bool.eq_false_iff, Ne, Tc.good_iff]; intro h; exact h0 (by simp only at h; omega)
    have HG := Lib.hid hg; clear hg
    go_enter Try.func61, Try.ntmps61
    go_wp2_with fail
    go_ret
    exact ⟨by rw [HG.out]; rfl, (Below.refl _ _).alloc (Nat.le_refl _) _⟩
  by_cases h1 : c ≤ 255
  case neg =>
    have hg : Tc.good ⟨c, ch, b, k, s, d⟩ = false := by
      rw [Bool.eq_false_iff, Ne, Tc.good_iff]; intro h; exact h1 (by simp only at h; omega)
    have HG := Lib.hid hg; clear hg
    go_enter Try.func61, Try.ntmps61
    go_wp2_with fail
    go_ret
    exact ⟨by rw [HG.out]; rfl, (Below.refl _ _).alloc (Nat.le_refl _) _⟩
  by_cases h2 : 0 ≤ s
  case neg =>
    have hg : Tc.good ⟨c, ch, b, k, s, d⟩ = false := by
      rw [Bool.eq_false_iff, Ne, Tc.good_iff]; intro h; exact h2 (by simp only at h; omega)
    have HG := Lib.hid hg; clear hg
    go_enter Try.func61, Try.ntmps61
    go_wp2_with fail
    go_ret
    exact ⟨by rw [HG.out]; rfl, (Below.refl _ _).alloc (Nat.le_refl _) _⟩
  by_cases h3 : s ≤ 255
  case neg =>
    have hg : Tc.good ⟨c, ch, b, k, s, d⟩ = false := by
      rw [Bool.eq_false_iff, Ne, Tc.good_iff]; intro h; exact h3 (by simp only at h; omega)
    have HG := Lib.hid hg; clear hg
    go_enter Try.func61, Try.ntmps61
    go_wp2_with fail
    go_ret
    exact ⟨by rw [HG.out]; rfl, (Below.refl _ _).alloc (Nat.le_refl _) _⟩
  by_cases h4 : 0 ≤ ch
  case neg =>
    have hg : Tc.good ⟨c, ch, b, k, s, d⟩ = false := by
      rw [Bool.eq_false_iff, Ne, Tc.good_iff]; intro h; exact h4 (by simp only at h; omega)
    have HG := Lib.hid hg; clear hg
    go_enter Try.func61, Try.ntmps61
    go_wp2_with fail
    go_ret
    exact ⟨by rw [HG.out]; rfl, (Below.refl _ _).alloc (Nat.le_refl _) _⟩
  by_cases h5 : ch ≤ 7
  case neg =>
    have hg : Tc.good ⟨c, ch, b, k, s, d⟩ = false := by
      rw [Bool.eq_false_iff, Ne, Tc.good_iff]; intro h; exact h5 (by simp only at h; omega)
    have HG := Lib.hid hg; clear hg
    have hb8 : ¬ ch < 8 := by omega
    go_enter Try.func61, Try.ntmps61
    go_wp2_with fail
    go_ret
    exact ⟨by rw [HG.out]; rfl, (Below.refl _ _).alloc (Nat.le_refl _) _⟩
  have hb8 : ch < 8 := by omega
  by_cases h6 : 1 ≤ d.size
  case neg =>
    have hg : Tc.good ⟨c, ch, b, k, s, d⟩ = false := by
      rw [Bool.eq_false_iff, Ne, Tc.good_iff]; intro h; exact h6 (by simp only at h; omega)
    have HG := Lib.hid hg; clear hg
    have he := empty_of d (by omega)
    have he2 := empty_eq d (by omega)
    go_enter Try.func61, Try.ntmps61
    go_wp2_with fail
    go_ret
    exact ⟨by rw [HG.out]; rfl, (Below.refl _ _).alloc (Nat.le_refl _) _⟩
  by_cases h7 : d.size ≤ 200
  case neg =>
    have hg : Tc.good ⟨c, ch, b, k, s, d⟩ = false := by
      rw [Bool.eq_false_iff, Ne, Tc.good_iff]; intro h; exact h7 (by simp only at h; omega)
    have HG := Lib.hid hg; clear hg
    have he := not_empty_of d h6
    have he2 := not_empty_eq d h6
    have hz : ¬ (d.size : Int) ≤ 200 := by omega
    go_enter Try.func61, Try.ntmps61
    go_wp2_with fail
    go_ret
    exact ⟨by rw [HG.out]; rfl, (Below.refl _ _).alloc (Nat.le_refl _) _⟩
  have he := not_empty_of d h6
  have he2 := not_empty_eq d h6
  have hz : (d.size : Int) ≤ 200 := by omega
  have hg : Tc.good ⟨c, ch, b, k, s, d⟩ = (b || !k) := by
    simp [Tc.good, h0, h1, h2, h3, h4, h5, h6, h7]
  have HG := Lib.hid hg; clear hg
  cases b <;> cases k
  all_goals
    go_enter Try.func61, Try.ntmps61
    go_wp2_with fail
    go_ret
    exact ⟨by rw [HG.out]; rfl, (Below.refl _ _).alloc (Nat.le_refl _) _⟩
end Go.Proofs.Ytbncejmohhejlaa
