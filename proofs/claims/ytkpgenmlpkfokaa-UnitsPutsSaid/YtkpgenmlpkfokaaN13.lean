/- What is proved here: the walk of summed. -/
import Derived.Test.YtkpgenmlpkfokaaN12
import Derived.Test.YtkpgenmlpkfokaaC3
set_option linter.unusedVariables false
set_option linter.unusedSimpArgs false
namespace Go.Proofs.Ytkpgenmlpkfokaa
open Go.RowKit
def sumB (l : List UInt8) : List UInt8 := l ++ beN 2 (w16 (sum16 l))
theorem sumB_length (l : List UInt8) : (sumB l).length = l.length + 2 := by simp [sumB, beN_length]
set_option maxHeartbeats 4000000 in
set_option maxRecDepth 100000 in
theorem usummed_any (base : Nat) (v : Value) (xs : List UInt8) (w : World) (hb : base ≤ w.heap.size) (hx : xs.length ≤ 1000000) (hR : Row w base v xs) :
    Calls Try.prog 25 #[v] w fun e w' => e = .returned (strOf (sumB xs)) ∧ Below base w w' := by
  have HR := Lib.hid hR
  obtain ⟨a, c, rfl⟩ := row_form hR
  have hcv := run_string hR
  obtain ⟨s, hs⟩ : ∃ s, s = sum16 xs := ⟨_, rfl⟩
  have h16 := fun W => Sum16_any ⟨xs.toArray⟩ W (by show xs.toArray.size ≤ _; simp; omega)
  have he : (⟨xs.toArray⟩ : ByteArray).data.toList = xs := rfl
  simp only [he] at h16
  rw [← hs] at h16
  have H16 := Lib.hid h16
  have HF := Lib.hid (show sumB xs = xs ++ beN 2 (w16 s) by rw [hs]; rfl)
  have hw0 := w16_nonneg s
  have hw1 := w16_lt s
  have hws : IntKind.i64.wrap (w16 s) = w16 s := IntWalk.i64_in _ (by omega)
  have HBY := Lib.hid (fun W => ubytes_any (w16 s) 2 W (by omega) (by omega) (by omega))
  clear hs h16 hR he
  go_enter Try.func25, Try.ntmps25
  go_wp2_with fail
  refine (H16.out _).mono ?_
  rintro e w1 ⟨rfl, hL1⟩
  replace HR := Lib.hid (row_below HR.out hL1 (Nat.le_refl _))
  have HL := Lib.hid (hL1.mono hb)
  clear hL1 hcv
  go_wp2_with fail
  refine (HBY.out _).mono ?_
  rintro e w2 ⟨v2, rfl, hR2, hL2⟩
  replace HR := Lib.hid (row_below HR.out hL2 (Nat.le_refl _))
  replace HL := Lib.hid (HL.out.trans (hL2.mono (Nat.le_trans hb HL.out.size)))
  have HR2 := Lib.hid hR2
  clear hR2 hL2
  have hsz := HL.out.size
  go_wp2_with (at_builtin; refine append_slice _ rfl _ _ rfl base _ _ rfl HR.out _ _ _ rfl HR2.out ?c1 ?c2 ?_)
  case c1 => rw [beN_length]; omega
  case c2 => omega
  intro v3 w3 hR3 hK3
  have hcv := run_string hR3
  replace HL := Lib.hid (HL.out.trans (hK3.toBelowAt (by omega) (fun i hi => by rw [Option.mem_toList] at hi; exact (row_lt HR.out i hi).1)))
  clear hR3 hK3
  go_wp2_with fail
  go_ret
  exact ⟨by rw [HF.out]; rfl, HL.out⟩
end Go.Proofs.Ytkpgenmlpkfokaa
