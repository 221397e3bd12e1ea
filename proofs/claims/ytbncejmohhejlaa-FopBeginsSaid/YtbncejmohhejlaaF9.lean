/- What is proved here: PutWord of any word, and the reference's. -/
import Derived.Test.YtbncejmohhejlaaF6
set_option linter.unusedVariables false
set_option linter.unusedSimpArgs false
namespace Go.Proofs.Ytbncejmohhejlaa
open Go.RowKit
def Wd.putV (x : Wd) : Value := if x.good then .tuple #[.int .u32 (wordN x.chan.toNat x.bypd.toNat x.next.toNat x.lockout x.wait x.retx : Nat), .int .i64 0] else .tuple #[.int .u32 0, .int .i64 2]
theorem Wd.good_iff (x : Wd) : x.good = true ↔ (0 ≤ x.chan ∧ x.chan ≤ 7 ∧ 0 ≤ x.bypd ∧ x.bypd ≤ 3 ∧ 0 ≤ x.next ∧ x.next ≤ 255) := by simp [Wd.good]
theorem putV_ok (x : Wd) (h : x.good = true) : x.putV = .tuple #[.int .u32 (wordN x.chan.toNat x.bypd.toNat x.next.toNat x.lockout x.wait x.retx : Nat), .int .i64 0] := by unfold Wd.putV; rw [if_pos h]
theorem putV_bad (x : Wd) (h : ¬ x.good = true) : x.putV = .tuple #[.int .u32 0, .int .i64 2] := by unfold Wd.putV; rw [if_neg h]
theorem Wd.good_nat (x : Wd) (h : x.good = true) : ∃ c b n : Nat, c ≤ 7 ∧ b ≤ 3 ∧ n ≤ 255 ∧ x = Wd.mk c x.lockout x.wait x.retx b n := by
  have h2 := (Wd.good_iff x).1 h
  obtain ⟨c, l, wa, r, b, n⟩ := x
  simp only at h2
  exact ⟨c.toNat, b.toNat, n.toNat, by omega, by omega, by omega, by simp; omega⟩
set_option maxHeartbeats 4000000 in
set_option maxRecDepth 100000 in
theorem PutWord_bad (x : Wd) (w : World) (hg : ¬ x.good = true) : Calls Try.prog 44 #[x.val] w fun e w' => e = .returned (.tuple #[.int .u32 0, .int .i64 2]) ∧ Below w.heap.size w w' := by
  rw [Wd.good_iff] at hg
  obtain ⟨ch, lo, wa, re, by_, nx⟩ := x
  simp only [Wd.val] at hg ⊢
  by_cases h0 : 0 ≤ ch
  case neg =>
    have d0 : decide (ch < 0) = true := by simp; omega
    clear hg
    go_enter Try.func44, Try.ntmps44
    go_wp2_with fail
    go_ret2
    exact ⟨rfl, (Below.refl _ _).alloc (Nat.le_refl _) _⟩
  by_cases h1 : ch ≤ 7
  case neg =>
    have d0 : decide (ch < 0) = false := by simp; omega
    have d1 : decide (8 ≤ ch) = true := by simp; omega
    clear hg
    go_enter Try.func44, Try.ntmps44
    go_wp2_with fail
    go_ret2
    exact ⟨rfl, (Below.refl _ _).alloc (Nat.le_refl _) _⟩
  by_cases h2 : 0 ≤ by_
  case neg =>
    have d0 : decide (ch < 0) = false := by simp; omega
    have d1 : decide (8 ≤ ch) = false := by simp; omega
    have d2 : decide (by_ < 0) = true := by simp; omega
    clear hg
    go_enter Try.func44, Try.ntmps44
    go_wp2_with fail
    go_ret2
    exact ⟨rfl, (Below.refl _ _).alloc (Nat.le_refl _) _⟩
  by_cases h3 : by_ ≤ 3
  case neg =>
    have d0 : decide (ch < 0) = false := by simp; omega
    have d1 : decide (8 ≤ ch) = false := by simp; omega
    have d2 : decide (by_ < 0) = false := by simp; omega
    have d3 : decide (3 < by_) = true := by simp; omega
    clear hg
    go_enter Try.func44, Try.ntmps44
    go_wp2_with fail
    go_ret2
    exact ⟨rfl, (Below.refl _ _).alloc (Nat.le_refl _) _⟩
  by_cases h4 : 0 ≤ nx
  case neg =>
    have d0 : decide (ch < 0) = false := by simp; omega
    have d1 : decide (8 ≤ ch) = false := by simp; omega
    have d2 : decide (by_ < 0) = false := by simp; omega
    have d3 : decide (3 < by_) = false := by simp; omega
    have d4 : decide (nx < 0) = true := by simp; omega
    clear hg
    go_enter Try.func44, Try.ntmps44
    go_wp2_with fail
    go_ret2
    exact ⟨rfl, (Below.refl _ _).alloc (Nat.le_refl _) _⟩
  by_cases h5 : nx ≤ 255
  case neg =>
    have d0 : decide (ch < 0) = false := by simp; omega
    have d1 : decide (8 ≤ ch) = false := by simp; omega
    have d2 : decide (by_ < 0) = false := by simp; omega
    have d3 : decide (3 < by_) = false := by simp; omega
    have d4 : decide (nx < 0) = false := by simp; omega
    have d5 : decide (255 < nx) = true := by simp; omega
    clear hg
    go_enter Try.func44, Try.ntmps44
    go_wp2_with fail
    go_ret2
    exact ⟨rfl, (Below.refl _ _).alloc (Nat.le_refl _) _⟩
  exact absurd ⟨h0, h1, h2, h3, h4, h5⟩ hg
set_option maxHeartbeats 4000000 in
set_option maxRecDepth 100000 in
theorem rPutWord_bad (x : Wd) (w : World) (hg : ¬ x.good = true) : Calls Try.prog 55 #[x.val] w fun e w' => e = .returned (.tuple #[.int .u32 0, .int .i64 2]) ∧ Below w.heap.size w w' := by
  rw [Wd.good_iff] at hg
  obtain ⟨ch, lo, wa, re, by_, nx⟩ := x
  simp only [Wd.val] at hg ⊢
  by_cases h0 : 0 ≤ ch
  case neg =>
    have d0 : decide (ch < 0) = true := by simp; omega
    clear hg
    go_enter Try.func55, Try.ntmps55
    go_wp2_with fail
    go_ret2
    exact ⟨rfl, (Below.refl _ _).alloc (Nat.le_refl _) _⟩
  by_cases h1 : ch ≤ 7
  case neg =>
    have d0 : decide (ch < 0) = false := by simp; omega
    have d1 : decide (7 < ch) = true := by simp; omega
    clear hg
    go_enter Try.func55, Try.ntmps55
    go_wp2_with fail
    go_ret2
    exact ⟨rfl, (Below.refl _ _).alloc (Nat.le_refl _) _⟩
  by_cases h2 : 0 ≤ by_
  case neg =>
    have d0 : decide (ch < 0) = false := by simp; omega
    have d1 : decide (7 < ch) = false := by simp; omega
    have d2 : decide (by_ < 0) = true := by simp; omega
    clear hg
    go_enter Try.func55, Try.ntmps55
    go_wp2_with fail
    go_ret2
    exact ⟨rfl, (Below.refl _ _).alloc (Nat.le_refl _) _⟩
  by_cases h3 : by_ ≤ 3
  case neg =>
    have d0 : decide (ch < 0) = false := by simp; omega
    have d1 : decide (7 < ch) = false := by simp; omega
    have d2 : decide (by_ < 0) = false := by simp; omega
    have d3 : decide (3 < by_) = true := by simp; omega
    clear hg
    go_enter Try.func55, Try.ntmps55
    go_wp2_with fail
    go_ret2
    exact ⟨rfl, (Below.refl _ _).alloc (Nat.le_refl _) _⟩
  by_cases h4 : 0 ≤ nx
  case neg =>
    have d0 : decide (ch < 0) = false := by simp; omega
    have d1 : decide (7 < ch) = false := by simp; omega
    have d2 : decide (by_ < 0) = false := by simp; omega
    have d3 : decide (3 < by_) = false := by simp; omega
    have d4 : decide (nx < 0) = true := by simp; omega
    clear hg
    go_enter Try.func55, Try.ntmps55
    go_wp2_with fail
    go_ret2
    exact ⟨rfl, (Below.refl _ _).alloc (Nat.le_refl _) _⟩
  by_cases h5 : nx ≤ 255
  case neg =>
    have d0 : decide (ch < 0) = false := by simp; omega
    have d1 : decide (7 < ch) = false := by simp; omega
    have d2 : decide (by_ < 0) = false := by simp; omega
    have d3 : decide (3 < by_) = false := by simp; omega
    have d4 : decide (nx < 0) = false := by simp; omega
    have d5 : decide (255 < nx) = true := by simp; omega
    clear hg
    go_enter Try.func55, Try.ntmps55
    go_wp2_with fail
    go_ret2
    exact ⟨rfl, (Below.refl _ _).alloc (Nat.le_refl _) _⟩
  exact absurd ⟨h0, h1, h2, h3, h4, h5⟩ hg
set_option maxHeartbeats 4000000 in
set_option maxRecDepth 100000 in
theorem rPutWord_ok (ch by_ nx : Nat) (lo wa re : Bool) (w : World) (h1 : ch ≤ 7) (h2 : by_ ≤ 3) (h3 : nx ≤ 255) : Calls Try.prog 55 #[(Wd.mk ch lo wa re by_ nx).val] w fun e w' => e = .returned (.tuple #[.int .u32 (wordN ch by_ nx lo wa re : Nat), .int .i64 0]) ∧ Below w.heap.size w w' := by
  have d1 : decide ((ch : Int) < 0) = false := by simp
  have d2 : decide (7 < (ch : Int)) = false := by simp; omega
  have d3 : decide ((by_ : Int) < 0) = false := by simp
  have d4 : decide (3 < (by_ : Int)) = false := by simp; omega
  have d5 : decide ((nx : Int) < 0) = false := by simp
  have d6 : decide (255 < (nx : Int)) = false := by simp; omega
  simp only [Wd.val]
  cases lo <;> cases wa <;> cases re
  all_goals
    go_enter Try.func55, Try.ntmps55
    go_wp2_with fail
    go_ret2
    refine ⟨?_, (Below.refl _ _).alloc (Nat.le_refl _) _⟩
    simp only [wordN, bn]
    simp
    omega
theorem PutWord_any (x : Wd) (w : World) : Calls Try.prog 44 #[x.val] w fun e w' => e = .returned x.putV ∧ Below w.heap.size w w' := by
  by_cases hg : x.good = true
  · rw [putV_ok x hg]
    obtain ⟨c, b, n, h1, h2, h3, h4⟩ := x.good_nat hg
    rw [h4]
    exact PutWord_ok c b n _ _ _ w h1 h2 h3
  · rw [putV_bad x hg]
    exact PutWord_bad x w hg
theorem rPutWord_any (x : Wd) (w : World) : Calls Try.prog 55 #[x.val] w fun e w' => e = .returned x.putV ∧ Below w.heap.size w w' := by
  by_cases hg : x.good = true
  · rw [putV_ok x hg]
    obtain ⟨c, b, n, h1, h2, h3, h4⟩ := x.good_nat hg
    rw [h4]
    exact rPutWord_ok c b n _ _ _ w h1 h2 h3
  · rw [putV_bad x hg]
    exact rPutWord_bad x w hg
end Go.Proofs.Ytbncejmohhejlaa
