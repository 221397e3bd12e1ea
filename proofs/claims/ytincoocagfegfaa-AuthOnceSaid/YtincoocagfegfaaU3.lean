/- What is proved here: walks of Seal of sealed commands, where it refuses. -/
import Derived.Test.YtincoocagfegfaaU2
set_option linter.unusedVariables false
set_option linter.unusedSimpArgs false
namespace Go.Proofs.Ytincoocagfegfaa
open Go.RowKit
theorem w64_ne (n : BitVec 64) (h : n ≠ 0#64) : w64 n ≠ 0 := by
  intro e
  apply h
  apply BitVec.eq_of_toNat_eq
  unfold w64 at e
  simp; omega
set_option maxHeartbeats 4000000 in
set_option maxRecDepth 100000 in
theorem aSeal_bad (key : ByteArray) (c : Cm) (w : World) (hc : ¬ (key.size = 16 ∧ c.ok)) : Calls Try.prog 9 #[.string key, c.val] w fun e w' => e = .returned (.tuple #[.string ⟨#[]⟩, .int .i64 2]) ∧ Below w.heap.size w w' := by
  obtain ⟨ch, n, op, args⟩ := c
  simp only [Cm.val, Cm.ok] at hc ⊢
  have HL := Lib.hid ((Below.refl w.heap.size w).alloc (Nat.le_refl _) (Obj.cells #[.int .i64 ch, .int .u64 (w64 n), .int .i64 op, .string args] 24))
  by_cases hk : key.size = 16
  case neg =>
    have d0 : ((key.size : Int) != 16) = true := by rw [bne_iff_ne]; omega
    clear hc hk
    go_enter Try.func9, Try.ntmps9
    go_wp2_with fail
    go_ret2
    exact ⟨rfl, HL.out⟩
  by_cases h1 : 0 ≤ ch
  case neg =>
    have d0 : ((key.size : Int) != 16) = false := by rw [hk]; rfl
    have d1 : decide (ch < 0) = true := by simp; omega
    clear hc hk h1
    go_enter Try.func9, Try.ntmps9
    go_wp2_with fail
    go_ret2
    exact ⟨rfl, HL.out⟩
  by_cases h2 : ch ≤ 7
  case neg =>
    have d0 : ((key.size : Int) != 16) = false := by rw [hk]; rfl
    have d1 : decide (ch < 0) = false := by simp; omega
    have d2 : decide (8 ≤ ch) = true := by simp; omega
    have e2 : decide (7 < ch) = true := by simp; omega
    clear hc hk h1 h2
    go_enter Try.func9, Try.ntmps9
    go_wp2_with fail
    go_ret2
    exact ⟨rfl, HL.out⟩
  by_cases h3 : n = 0#64
  case pos =>
    have d0 : ((key.size : Int) != 16) = false := by rw [hk]; rfl
    have d1 : decide (ch < 0) = false := by simp; omega
    have d2 : decide (8 ≤ ch) = false := by simp; omega
    have e2 : decide (7 < ch) = false := by simp; omega
    have d3 : (w64 n == 0) = true := by rw [h3]; rfl
    clear hc hk h1 h2 h3
    go_enter Try.func9, Try.ntmps9
    go_wp2_with fail
    go_ret2
    exact ⟨rfl, HL.out⟩
  by_cases h4 : 0 ≤ op
  case neg =>
    have d0 : ((key.size : Int) != 16) = false := by rw [hk]; rfl
    have d1 : decide (ch < 0) = false := by simp; omega
    have d2 : decide (8 ≤ ch) = false := by simp; omega
    have e2 : decide (7 < ch) = false := by simp; omega
    have d3 : (w64 n == 0) = false := by rw [beq_eq_false_iff_ne]; exact w64_ne n h3
    have d4 : decide (op < 0) = true := by simp; omega
    clear hc hk h1 h2 h3 h4
    go_enter Try.func9, Try.ntmps9
    go_wp2_with fail
    go_ret2
    exact ⟨rfl, HL.out⟩
  by_cases h5 : op ≤ 255
  case neg =>
    have d0 : ((key.size : Int) != 16) = false := by rw [hk]; rfl
    have d1 : decide (ch < 0) = false := by simp; omega
    have d2 : decide (8 ≤ ch) = false := by simp; omega
    have e2 : decide (7 < ch) = false := by simp; omega
    have d3 : (w64 n == 0) = false := by rw [beq_eq_false_iff_ne]; exact w64_ne n h3
    have d4 : decide (op < 0) = false := by simp; omega
    have d5 : decide (255 < op) = true := by simp; omega
    clear hc hk h1 h2 h3 h4 h5
    go_enter Try.func9, Try.ntmps9
    go_wp2_with fail
    go_ret2
    exact ⟨rfl, HL.out⟩
  by_cases h6 : args.size ≤ 180
  case neg =>
    have d0 : ((key.size : Int) != 16) = false := by rw [hk]; rfl
    have d1 : decide (ch < 0) = false := by simp; omega
    have d2 : decide (8 ≤ ch) = false := by simp; omega
    have e2 : decide (7 < ch) = false := by simp; omega
    have d3 : (w64 n == 0) = false := by rw [beq_eq_false_iff_ne]; exact w64_ne n h3
    have d4 : decide (op < 0) = false := by simp; omega
    have d5 : decide (255 < op) = false := by simp; omega
    have d6 : decide (180 < (args.size : Int)) = true := by simp; omega
    clear hc hk h1 h2 h3 h4 h5 h6
    go_enter Try.func9, Try.ntmps9
    go_wp2_with fail
    go_ret2
    exact ⟨rfl, HL.out⟩
  exact absurd ⟨hk, h1, h2, h3, h4, h5, h6⟩ hc
set_option maxHeartbeats 4000000 in
set_option maxRecDepth 100000 in
theorem qSeal_bad (key : ByteArray) (c : Cm) (w : World) (hc : ¬ (key.size = 16 ∧ c.ok)) : Calls Try.prog 10 #[.string key, c.val] w fun e w' => e = .returned (.tuple #[.string ⟨#[]⟩, .int .i64 2]) ∧ Below w.heap.size w w' := by
  obtain ⟨ch, n, op, args⟩ := c
  simp only [Cm.val, Cm.ok] at hc ⊢
  have HL := Lib.hid ((Below.refl w.heap.size w).alloc (Nat.le_refl _) (Obj.cells #[.int .i64 ch, .int .u64 (w64 n), .int .i64 op, .string args] 24))
  by_cases hk : key.size = 16
  case neg =>
    have d0 : ((key.size : Int) != 16) = true := by rw [bne_iff_ne]; omega
    clear hc hk
    go_enter Try.func10, Try.ntmps10
    go_wp2_with fail
    go_ret2
    exact ⟨rfl, HL.out⟩
  by_cases h1 : 0 ≤ ch
  case neg =>
    have d0 : ((key.size : Int) != 16) = false := by rw [hk]; rfl
    have d1 : decide (ch < 0) = true := by simp; omega
    clear hc hk h1
    go_enter Try.func10, Try.ntmps10
    go_wp2_with fail
    go_ret2
    exact ⟨rfl, HL.out⟩
  by_cases h2 : ch ≤ 7
  case neg =>
    have d0 : ((key.size : Int) != 16) = false := by rw [hk]; rfl
    have d1 : decide (ch < 0) = false := by simp; omega
    have d2 : decide (8 ≤ ch) = true := by simp; omega
    have e2 : decide (7 < ch) = true := by simp; omega
    clear hc hk h1 h2
    go_enter Try.func10, Try.ntmps10
    go_wp2_with fail
    go_ret2
    exact ⟨rfl, HL.out⟩
  by_cases h3 : n = 0#64
  case pos =>
    have d0 : ((key.size : Int) != 16) = false := by rw [hk]; rfl
    have d1 : decide (ch < 0) = false := by simp; omega
    have d2 : decide (8 ≤ ch) = false := by simp; omega
    have e2 : decide (7 < ch) = false := by simp; omega
    have d3 : (w64 n == 0) = true := by rw [h3]; rfl
    clear hc hk h1 h2 h3
    go_enter Try.func10, Try.ntmps10
    go_wp2_with fail
    go_ret2
    exact ⟨rfl, HL.out⟩
  by_cases h4 : 0 ≤ op
  case neg =>
    have d0 : ((key.size : Int) != 16) = false := by rw [hk]; rfl
    have d1 : decide (ch < 0) = false := by simp; omega
    have d2 : decide (8 ≤ ch) = false := by simp; omega
    have e2 : decide (7 < ch) = false := by simp; omega
    have d3 : (w64 n == 0) = false := by rw [beq_eq_false_iff_ne]; exact w64_ne n h3
    have d4 : decide (op < 0) = true := by simp; omega
    clear hc hk h1 h2 h3 h4
    go_enter Try.func10, Try.ntmps10
    go_wp2_with fail
    go_ret2
    exact ⟨rfl, HL.out⟩
  by_cases h5 : op ≤ 255
  case neg =>
    have d0 : ((key.size : Int) != 16) = false := by rw [hk]; rfl
    have d1 : decide (ch < 0) = false := by simp; omega
    have d2 : decide (8 ≤ ch) = false := by simp; omega
    have e2 : decide (7 < ch) = false := by simp; omega
    have d3 : (w64 n == 0) = false := by rw [beq_eq_false_iff_ne]; exact w64_ne n h3
    have d4 : decide (op < 0) = false := by simp; omega
    have d5 : decide (255 < op) = true := by simp; omega
    clear hc hk h1 h2 h3 h4 h5
    go_enter Try.func10, Try.ntmps10
    go_wp2_with fail
    go_ret2
    exact ⟨rfl, HL.out⟩
  by_cases h6 : args.size ≤ 180
  case neg =>
    have d0 : ((key.size : Int) != 16) = false := by rw [hk]; rfl
    have d1 : decide (ch < 0) = false := by simp; omega
    have d2 : decide (8 ≤ ch) = false := by simp; omega
    have e2 : decide (7 < ch) = false := by simp; omega
    have d3 : (w64 n == 0) = false := by rw [beq_eq_false_iff_ne]; exact w64_ne n h3
    have d4 : decide (op < 0) = false := by simp; omega
    have d5 : decide (255 < op) = false := by simp; omega
    have d6 : decide (180 < (args.size : Int)) = true := by simp; omega
    clear hc hk h1 h2 h3 h4 h5 h6
    go_enter Try.func10, Try.ntmps10
    go_wp2_with fail
    go_ret2
    exact ⟨rfl, HL.out⟩
  exact absurd ⟨hk, h1, h2, h3, h4, h5, h6⟩ hc
end Go.Proofs.Ytincoocagfegfaa
