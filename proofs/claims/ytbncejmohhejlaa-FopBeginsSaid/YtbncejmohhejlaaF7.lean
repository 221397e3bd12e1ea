/- What is proved here: the walks of New, Word and frame. -/
import Derived.Test.YtbncejmohhejlaaF5
import Derived.Test.YtbncejmohhejlaaF6
set_option linter.unusedVariables false
set_option linter.unusedSimpArgs false
namespace Go.Proofs.Ytbncejmohhejlaa
open Go.RowKit
def Fm.start (c h ch : Int) : Fm := ⟨c, h, ⟨ch, false, false, false, 0, 0⟩⟩
theorem even_and : ∀ n : Nat, n < 255 → bits .and .i64 (n : Int) 1 = ((n % 2 : Nat) : Int) := by decide +kernel
set_option maxHeartbeats 4000000 in
set_option maxRecDepth 100000 in
theorem New_ok (c ch h : Int) (w : World) (h1 : 0 ≤ c) (h2 : c ≤ 255) (h3 : 0 ≤ ch) (h4 : ch < 8) (h5 : 1 ≤ h) (h6 : h ≤ 127) : Calls Try.prog 52 #[.int .i64 c, .int .i64 ch, .int .i64 (2 * h)] w fun e w' => e = .returned (.tuple #[.pointer (some ⟨w.heap.size, 0, none⟩), .int .i64 0]) ∧ Below w.heap.size w w' ∧ Blk w' w.heap.size (Fm.start c h ch).cells 112 := by
  have d1 : decide (c < 0) = false := by simp; omega
  have d2 : decide (255 < c) = false := by simp; omega
  have d3 : decide (ch < 0) = false := by simp; omega
  have d4 : decide (8 ≤ ch) = false := by simp; omega
  have d6 : decide (2 * h < 2) = false := by simp; omega
  have d7 : decide (254 < 2 * h) = false := by simp; omega
  have d5 : bits .and .i64 (2 * h) 1 = 0 := by
    have := even_and (2 * h).toNat (by omega)
    rw [show (((2 * h).toNat : Nat) : Int) = 2 * h by omega] at this
    rw [this]; omega
  have hq : 2 * h / 2 = h := by omega
  obtain ⟨wd, hwd⟩ : ∃ wd, wd = 2 * h := ⟨_, rfl⟩
  rw [← hwd] at d5 d6 d7 hq ⊢
  have hb1 : 2 ≤ wd := by omega
  have hb2 : wd ≤ 254 := by omega
  have HWD := Lib.hid hwd; clear hwd
  go_enter Try.func52, Try.ntmps52
  go_wp2_with fail
  go_ret2
  exact ⟨rfl, (Below.refl _ _).alloc (Nat.le_refl _) _, Blk.new w (Fm.start c h ch).cells _⟩
set_option maxHeartbeats 4000000 in
set_option maxRecDepth 100000 in
theorem Word_any (cr h : Int) (ch by_ nx : Nat) (lo wa re : Bool) (g : Nat) (w : World) (hh : h ≠ 0) (h1 : ch ≤ 7) (h2 : by_ ≤ 3) (h3 : nx ≤ 255) (hB : Blk w g (Fm.mk cr h ⟨ch, lo, wa, re, by_, nx⟩).cells 112) :
    Calls Try.prog 29 #[.pointer (some ⟨g, 0, none⟩)] w fun e w' => e = .returned (.int .u32 (wordN ch by_ nx lo wa re : Nat)) ∧ Below w.heap.size w w' := by
  have hn := Lib.hid (none_any _ g w false (by simpa using hh) hB)
  have hp := PutWord_ok ch by_ nx lo wa re w h1 h2 h3
  simp only [Wd.val] at hp
  have HP := Lib.hid hp; clear hp
  have HB := Lib.hid hB; clear hB
  have c0 := HB.out.cell 0
  have c1 := HB.out.cell 1
  have c2 := HB.out.cell 2
  have c3 := HB.out.cell 3
  have c4 := HB.out.cell 4
  have c5 := HB.out.cell 5
  have c6 := HB.out.cell 6
  have c7 := HB.out.cell 7
  simp only [Fm.cells, List.getElem?_cons_zero, List.getElem?_cons_succ] at c0 c1 c2 c3 c4 c5 c6 c7
  go_enter Try.func29, Try.ntmps29
  go_wp2_with fail
  refine hn.out.mono ?_
  rintro e w1 ⟨rfl, rfl⟩
  go_wp2_with fail
  refine HP.out.mono ?_
  rintro e w1 ⟨rfl, hL1⟩
  have HL1 := Lib.hid hL1; clear hL1
  go_wp2_with fail
  go_ret
  exact ⟨rfl, HL1.out⟩
end Go.Proofs.Ytbncejmohhejlaa
