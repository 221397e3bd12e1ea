/- What is proved here: the walks of the six laws on keyed sums. -/
import Derived.Test.YtplfiadgfjkfkaaK12
namespace Go.Proofs.Ytplfiadgfjkfkaa
open Go.RowKit
set_option maxHeartbeats 4000000 in
theorem sums_walk (key b : ByteArray) (w : World) : Calls Try.prog 3 #[.string key, .string b] w fun e w' => e = .returned (.bool true) ∧ Below w.heap.size w w' := by
  have HL0 := Lib.hid (Below.refl w.heap.size w)
  by_cases hl : b.size ≤ 20000
  · by_cases hk : key.size = 16
    · have Hk := Lib.hid hk; clear hk
      go_enter Try.func3, Try.ntmps3
      go_wp2_with fail
      refine (Sum_ok key b _ Hk.out (by omega)).mono ?_
      obtain ⟨n, hn⟩ : ∃ n, n = keyedSum key.data.toList b.data.toList := ⟨_, rfl⟩
      rw [← hn]
      have HN := Lib.hid hn; clear hn
      rintro e w1 ⟨rfl, hL⟩
      have HL1 := Lib.hid (HL0.out.trans (hL.mono HL0.out.size)); clear hL
      go_wp2_with fail
      refine (rSum_any key b _ Hk.out (by omega)).mono ?_
      rw [← HN.out]
      rintro e w2 ⟨rfl, hL⟩
      have HL2 := Lib.hid (HL1.out.trans (hL.mono HL1.out.size)); clear hL
      go_wp2_with fail
      refine (Seal_ok key b _ Hk.out (by omega)).mono ?_
      obtain ⟨s, hs, hsl, hss⟩ := strOf_is (b.data.toList ++ be8 (keyedSum key.data.toList b.data.toList))
      rw [hs]
      have HS := Lib.hid hs; clear hs hsl hss
      rintro e w3 ⟨rfl, hL⟩
      have HL3 := Lib.hid (HL2.out.trans (hL.mono HL2.out.size)); clear hL
      go_wp2_with fail
      refine (rSeal_ok key b _ Hk.out (by omega)).mono ?_
      rw [HS.out]
      rintro e w4 ⟨rfl, hL⟩
      have HL4 := Lib.hid (HL3.out.trans (hL.mono HL3.out.size)); clear hL
      go_wp2_with fail
      refine (awake_any _).mono ?_
      rintro e w5 ⟨rfl, hL⟩
      have HL5 := Lib.hid (HL4.out.trans (hL.mono HL4.out.size)); clear hL
      go_wp2_with fail
      go_ret
      exact ⟨rfl, HL5.out⟩
    · have Hk := Lib.hid hk; clear hk
      go_enter Try.func3, Try.ntmps3
      go_wp2_with fail
      refine (Sum_bad key b _ Hk.out).mono ?_
      rintro e w1 ⟨rfl, hL⟩
      have HL1 := Lib.hid (HL0.out.trans (hL.mono HL0.out.size)); clear hL
      go_wp2_with fail
      refine (rSum_bad key b _ Hk.out).mono ?_
      rintro e w2 ⟨rfl, hL⟩
      have HL2 := Lib.hid (HL1.out.trans (hL.mono HL1.out.size)); clear hL
      go_wp2_with fail
      refine (Seal_bad key b _ Hk.out).mono ?_
      rintro e w3 ⟨rfl, hL⟩
      have HL3 := Lib.hid (HL2.out.trans (hL.mono HL2.out.size)); clear hL
      unfold strOf
      go_wp2_with fail
      refine (rSeal_bad key b _ Hk.out).mono ?_
      rintro e w4 ⟨rfl, hL⟩
      have HL4 := Lib.hid (HL3.out.trans (hL.mono HL3.out.size)); clear hL
      unfold strOf
      go_wp2_with fail
      refine (awake_any _).mono ?_
      rintro e w5 ⟨rfl, hL⟩
      have HL5 := Lib.hid (HL4.out.trans (hL.mono HL4.out.size)); clear hL
      go_wp2_with fail
      go_ret
      exact ⟨rfl, HL5.out⟩
  · go_enter Try.func3, Try.ntmps3
    go_wp2_with fail
    refine (awake_any _).mono ?_
    rintro e w5 ⟨rfl, hL⟩
    go_wp2_with fail
    go_ret
    exact ⟨rfl, hL⟩
end Go.Proofs.Ytplfiadgfjkfkaa
