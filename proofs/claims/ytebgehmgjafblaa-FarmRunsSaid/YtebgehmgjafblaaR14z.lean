/- What is proved here: New of any numbers, and the reference's. -/
import Derived.Test.YtebgehmgjafblaaR14y
import Derived.Test.YtebgehmgjafblaaO14
set_option linter.unusedVariables false
set_option linter.unusedSimpArgs false
namespace Go.Proofs.Ytebgehmgjafblaa
open Go.RowKit
def newG (c ch wd : Int) : Prop := 0 ≤ c ∧ c ≤ 255 ∧ 0 ≤ ch ∧ ch ≤ 7 ∧ wd % 2 = 0 ∧ 2 ≤ wd ∧ wd ≤ 254
theorem and_one (n : Int) : bits .and .i64 n 1 = n % 2 := by
  show IntKind.i64.wrap ((BitVec.ofInt 64 n &&& BitVec.ofInt 64 1).toNat : Int) = _
  rw [BitVec.toNat_and, show (BitVec.ofInt 64 1).toNat = 1 from rfl, Nat.and_one_is_mod, BitVec.toNat_ofInt, IntKind.wrap_i64]
  omega
theorem tmod2 (n : Int) : n.tmod 2 = 0 ↔ n % 2 = 0 := ⟨fun h => Int.emod_eq_zero_of_dvd (Int.dvd_of_tmod_eq_zero h), fun h => Int.tmod_eq_zero_of_dvd (Int.dvd_of_emod_eq_zero h)⟩
set_option maxHeartbeats 4000000 in
set_option maxRecDepth 100000 in
theorem New_bad (c ch wd : Int) (w : World) (hg : ¬ newG c ch wd) : Calls Try.prog 16 #[.int .i64 c, .int .i64 ch, .int .i64 wd] w fun e w' => e = .returned (.tuple #[.pointer none, .int .i64 2]) ∧ w = w' := by
  by_cases h0 : 0 ≤ c
  case neg =>
    have d0 : decide (c < 0) = true := by simp; omega
    clear hg h0
    go_enter Try.func16, Try.ntmps16
    go_wp2_with fail
    go_ret2
    exact ⟨rfl, rfl⟩
  by_cases h1 : c ≤ 255
  case neg =>
    have d0 : decide (c < 0) = false := by simp; omega
    have d1 : decide (255 < c) = true := by simp; omega
    clear hg h0 h1
    go_enter Try.func16, Try.ntmps16
    go_wp2_with fail
    go_ret2
    exact ⟨rfl, rfl⟩
  by_cases h2 : 0 ≤ ch
  case neg =>
    have d0 : decide (c < 0) = false := by simp; omega
    have d1 : decide (255 < c) = false := by simp; omega
    have d2 : decide (ch < 0) = true := by simp; omega
    clear hg h0 h1 h2
    go_enter Try.func16, Try.ntmps16
    go_wp2_with fail
    go_ret2
    exact ⟨rfl, rfl⟩
  by_cases h3 : ch ≤ 7
  case neg =>
    have d0 : decide (c < 0) = false := by simp; omega
    have d1 : decide (255 < c) = false := by simp; omega
    have d2 : decide (ch < 0) = false := by simp; omega
    have d3 : decide (8 ≤ ch) = true := by simp; omega
    have d4 : decide (7 < ch) = true := by simp; omega
    clear hg h0 h1 h2 h3
    go_enter Try.func16, Try.ntmps16
    go_wp2_with fail
    go_ret2
    exact ⟨rfl, rfl⟩
  by_cases h4 : wd % 2 = 0
  case neg =>
    have d0 : decide (c < 0) = false := by simp; omega
    have d1 : decide (255 < c) = false := by simp; omega
    have d2 : decide (ch < 0) = false := by simp; omega
    have d3 : decide (8 ≤ ch) = false := by simp; omega
    have d4 : decide (7 < ch) = false := by simp; omega
    have d5 : (bits .and .i64 wd 1 != 0) = true := by rw [and_one]; rw [bne_iff_ne]; exact h4
    have d6 : (wd.tmod 2 != 0) = true := by rw [bne_iff_ne, ne_eq, tmod2]; exact h4
    clear hg h0 h1 h2 h3 h4
    go_enter Try.func16, Try.ntmps16
    go_wp2_with fail
    go_ret2
    exact ⟨rfl, rfl⟩
  by_cases h5 : 2 ≤ wd
  case neg =>
    have d0 : decide (c < 0) = false := by simp; omega
    have d1 : decide (255 < c) = false := by simp; omega
    have d2 : decide (ch < 0) = false := by simp; omega
    have d3 : decide (8 ≤ ch) = false := by simp; omega
    have d4 : decide (7 < ch) = false := by simp; omega
    have d5 : (bits .and .i64 wd 1 != 0) = false := by rw [and_one]; rw [h4]; rfl
    have d6 : (wd.tmod 2 != 0) = false := by rw [bne_eq_false_iff_eq, tmod2]; exact h4
    have d7 : decide (wd < 2) = true := by simp; omega
    clear hg h0 h1 h2 h3 h4 h5
    go_enter Try.func16, Try.ntmps16
    go_wp2_with fail
    go_ret2
    exact ⟨rfl, rfl⟩
  by_cases h6 : wd ≤ 254
  case neg =>
    have d0 : decide (c < 0) = false := by simp; omega
    have d1 : decide (255 < c) = false := by simp; omega
    have d2 : decide (ch < 0) = false := by simp; omega
    have d3 : decide (8 ≤ ch) = false := by simp; omega
    have d4 : decide (7 < ch) = false := by simp; omega
    have d5 : (bits .and .i64 wd 1 != 0) = false := by rw [and_one]; rw [h4]; rfl
    have d6 : (wd.tmod 2 != 0) = false := by rw [bne_eq_false_iff_eq, tmod2]; exact h4
    have d7 : decide (wd < 2) = false := by simp; omega
    have d8 : decide (254 < wd) = true := by simp; omega
    clear hg h0 h1 h2 h3 h4 h5 h6
    go_enter Try.func16, Try.ntmps16
    go_wp2_with fail
    go_ret2
    exact ⟨rfl, rfl⟩
  exact absurd ⟨h0, h1, h2, h3, h4, h5, h6⟩ hg
set_option maxHeartbeats 4000000 in
set_option maxRecDepth 100000 in
theorem rNew_bad (c ch wd : Int) (w : World) (hg : ¬ newG c ch wd) : Calls Try.prog 37 #[.int .i64 c, .int .i64 ch, .int .i64 wd] w fun e w' => e = .returned (.tuple #[.pointer none, .int .i64 2]) ∧ w = w' := by
  by_cases h0 : 0 ≤ c
  case neg =>
    have d0 : decide (c < 0) = true := by simp; omega
    clear hg h0
    go_enter Try.func37, Try.ntmps37
    go_wp2_with fail
    go_ret2
    exact ⟨rfl, rfl⟩
  by_cases h1 : c ≤ 255
  case neg =>
    have d0 : decide (c < 0) = false := by simp; omega
    have d1 : decide (255 < c) = true := by simp; omega
    clear hg h0 h1
    go_enter Try.func37, Try.ntmps37
    go_wp2_with fail
    go_ret2
    exact ⟨rfl, rfl⟩
  by_cases h2 : 0 ≤ ch
  case neg =>
    have d0 : decide (c < 0) = false := by simp; omega
    have d1 : decide (255 < c) = false := by simp; omega
    have d2 : decide (ch < 0) = true := by simp; omega
    clear hg h0 h1 h2
    go_enter Try.func37, Try.ntmps37
    go_wp2_with fail
    go_ret2
    exact ⟨rfl, rfl⟩
  by_cases h3 : ch ≤ 7
  case neg =>
    have d0 : decide (c < 0) = false := by simp; omega
    have d1 : decide (255 < c) = false := by simp; omega
    have d2 : decide (ch < 0) = false := by simp; omega
    have d3 : decide (8 ≤ ch) = true := by simp; omega
    have d4 : decide (7 < ch) = true := by simp; omega
    clear hg h0 h1 h2 h3
    go_enter Try.func37, Try.ntmps37
    go_wp2_with fail
    go_ret2
    exact ⟨rfl, rfl⟩
  by_cases h4 : wd % 2 = 0
  case neg =>
    have d0 : decide (c < 0) = false := by simp; omega
    have d1 : decide (255 < c) = false := by simp; omega
    have d2 : decide (ch < 0) = false := by simp; omega
    have d3 : decide (8 ≤ ch) = false := by simp; omega
    have d4 : decide (7 < ch) = false := by simp; omega
    have d5 : (bits .and .i64 wd 1 != 0) = true := by rw [and_one]; rw [bne_iff_ne]; exact h4
    have d6 : (wd.tmod 2 != 0) = true := by rw [bne_iff_ne, ne_eq, tmod2]; exact h4
    clear hg h0 h1 h2 h3 h4
    go_enter Try.func37, Try.ntmps37
    go_wp2_with fail
    go_ret2
    exact ⟨rfl, rfl⟩
  by_cases h5 : 2 ≤ wd
  case neg =>
    have d0 : decide (c < 0) = false := by simp; omega
    have d1 : decide (255 < c) = false := by simp; omega
    have d2 : decide (ch < 0) = false := by simp; omega
    have d3 : decide (8 ≤ ch) = false := by simp; omega
    have d4 : decide (7 < ch) = false := by simp; omega
    have d5 : (bits .and .i64 wd 1 != 0) = false := by rw [and_one]; rw [h4]; rfl
    have d6 : (wd.tmod 2 != 0) = false := by rw [bne_eq_false_iff_eq, tmod2]; exact h4
    have d7 : decide (wd < 2) = true := by simp; omega
    clear hg h0 h1 h2 h3 h4 h5
    go_enter Try.func37, Try.ntmps37
    go_wp2_with fail
    go_ret2
    exact ⟨rfl, rfl⟩
  by_cases h6 : wd ≤ 254
  case neg =>
    have d0 : decide (c < 0) = false := by simp; omega
    have d1 : decide (255 < c) = false := by simp; omega
    have d2 : decide (ch < 0) = false := by simp; omega
    have d3 : decide (8 ≤ ch) = false := by simp; omega
    have d4 : decide (7 < ch) = false := by simp; omega
    have d5 : (bits .and .i64 wd 1 != 0) = false := by rw [and_one]; rw [h4]; rfl
    have d6 : (wd.tmod 2 != 0) = false := by rw [bne_eq_false_iff_eq, tmod2]; exact h4
    have d7 : decide (wd < 2) = false := by simp; omega
    have d8 : decide (254 < wd) = true := by simp; omega
    clear hg h0 h1 h2 h3 h4 h5 h6
    go_enter Try.func37, Try.ntmps37
    go_wp2_with fail
    go_ret2
    exact ⟨rfl, rfl⟩
  exact absurd ⟨h0, h1, h2, h3, h4, h5, h6⟩ hg
set_option maxHeartbeats 4000000 in
set_option maxRecDepth 100000 in
theorem rNew_ok (c ch wd : Int) (w : World) (h : newG c ch wd) : Calls Try.prog 37 #[.int .i64 c, .int .i64 ch, .int .i64 wd] w fun e w' => e = .returned (.tuple #[.pointer (some ⟨w.heap.size, 0, none⟩), .int .i64 0]) ∧ Below w.heap.size w w' ∧ Blk w' w.heap.size (Fm.start c wd ch).cells 78 := by
  obtain ⟨h0, h1, h2, h3, h4, h5, h6⟩ := h
  have d0 : decide (c < 0) = false := by simp; omega
  have d1 : decide (255 < c) = false := by simp; omega
  have d2 : decide (ch < 0) = false := by simp; omega
  have d3 : decide (7 < ch) = false := by simp; omega
  have d4 : (wd.tmod 2 != 0) = false := by rw [bne_eq_false_iff_eq, tmod2]; exact h4
  have d4' : (wd % 2 != 0) = false := by rw [h4]; rfl
  have d5 : decide (wd < 2) = false := by simp; omega
  have d6 : decide (254 < wd) = false := by simp; omega
  have H4 := Lib.hid h4; clear h4
  go_enter Try.func37, Try.ntmps37
  go_wp2_with fail
  go_ret2
  exact ⟨rfl, (Below.refl _ _).alloc (Nat.le_refl _) _, Blk.new w (Fm.start c wd ch).cells _⟩
theorem New_any (c ch wd : Int) (w : World) (h : newG c ch wd) : Calls Try.prog 16 #[.int .i64 c, .int .i64 ch, .int .i64 wd] w fun e w' => e = .returned (.tuple #[.pointer (some ⟨w.heap.size, 0, none⟩), .int .i64 0]) ∧ Below w.heap.size w w' ∧ Blk w' w.heap.size (Fm.start c (wd / 2) ch).cells 82 := by
  obtain ⟨h0, h1, h2, h3, h4, h5, h6⟩ := h
  have := New_ok c ch (wd / 2) w h0 h1 h2 (by omega) (by omega) (by omega)
  rw [show 2 * (wd / 2) = wd by omega] at this
  exact this
end Go.Proofs.Ytebgehmgjafblaa
