/- What is proved here: the walk of the law about segments. -/
import Derived.Test.YtebgehmgjafblaaH12
import Derived.Test.YtebgehmgjafblaaT8
set_option linter.unusedVariables false
set_option linter.unusedSimpArgs false
namespace Go.Proofs.Ytebgehmgjafblaa
open Go.RowKit
set_option maxHeartbeats 4000000 in
set_option maxRecDepth 100000 in
theorem TcframeSegments_any (p : ByteArray) (n : Int) (w : World) : Calls Try.prog 5 #[.string p, .int .i64 n] w fun e w' => e = .returned (.bool true) ∧ Below w.heap.size w w' := by
  by_cases h0 : 5000 < p.size
  · have k0 : (5000 : Int) < p.size := by omega
    go_enter Try.func5, Try.ntmps5
    go_wp2_with fail
    refine (shown12_any _).mono ?_
    rintro e w1 ⟨rfl, hL1⟩
    have HL1 := Lib.hid hL1; clear hL1
    go_wp2_with fail
    go_ret
    exact ⟨rfl, HL1.out⟩
  · have k0 : ¬ (5000 : Int) < p.size := by omega
    by_cases hg : 1 ≤ p.size ∧ p.size ≤ 1030 ∧ 1 ≤ n ∧ n ≤ 199
    · obtain ⟨g1, g2, g3, g4⟩ := hg
      obtain ⟨m, rfl⟩ : ∃ m : Nat, n = m := ⟨n.toNat, by omega⟩
      have hm1 : 1 ≤ m := by omega
      have hm2 : m ≤ 199 := by omega
      obtain ⟨L, hL⟩ : ∃ L, L = segList p m (segN p.size m) := ⟨_, rfl⟩
      have hLl : L.length ≤ 1000000 := by
        rw [hL, segList, List.length_map, List.length_range]
        unfold segN
        exact Nat.le_trans (Nat.div_le_self _ _) (by omega)
      have hs1 := fun W => Segments_ok p m W g1 g2 hm1 hm2
      have hs2 := fun W => rSegments_ok p m W g1 g2 hm1 hm2
      rw [← hL] at hs1 hs2
      have HS1 := Lib.hid hs1; have HS2 := Lib.hid hs2
      clear hs1 hs2 hL h0
      go_enter Try.func5, Try.ntmps5
      go_wp2_with fail
      refine (shown12_any _).mono ?_
      rintro e w1 ⟨rfl, hL1⟩
      have HL1 := Lib.hid hL1; clear hL1
      go_wp2_with fail
      refine (HS1.out _).mono ?_
      rintro e w2 ⟨v, rfl, hR2, hL2⟩
      have HL2 := Lib.hid (HL1.out.trans (hL2.mono HL1.out.size))
      have HR2 := Lib.hid hR2; clear hL2 hR2 HL1
      go_wp2_with fail
      refine (HS2.out _).mono ?_
      rintro e w3 ⟨u, rfl, hR3, hL3⟩
      have HL3 := Lib.hid (HL2.out.trans (hL3.mono HL2.out.size))
      have HR4 := Lib.hid (srow_below HR2.out hL3 (Nat.le_refl _))
      have HR3 := Lib.hid hR3; clear hL3 hR3 HL2 HR2
      go_wp2_with fail
      refine (Same_any L v u _ _ _ hLl HR4.out HR3.out).mono ?_
      rintro e w4 ⟨rfl, hL4⟩
      have HL4 := Lib.hid (HL3.out.trans (hL4.mono HL3.out.size))
      clear hL4 HL3 HR3 HR4
      go_wp2_with fail
      go_ret
      exact ⟨rfl, HL4.out⟩
    · have hs1 := fun W => Segments_bad p n W hg
      have hs2 := fun W => rSegments_bad p n W hg
      have HS1 := Lib.hid hs1; have HS2 := Lib.hid hs2
      clear hs1 hs2 h0 hg
      go_enter Try.func5, Try.ntmps5
      go_wp2_with fail
      refine (shown12_any _).mono ?_
      rintro e w1 ⟨rfl, hL1⟩
      have HL1 := Lib.hid hL1; clear hL1
      go_wp2_with fail
      refine (HS1.out _).mono ?_
      rintro e w2 ⟨rfl, rfl⟩
      go_wp2_with fail
      refine (HS2.out _).mono ?_
      rintro e w3 ⟨rfl, rfl⟩
      go_wp2_with fail
      refine (Same_nil _).mono ?_
      rintro e w4 ⟨rfl, hL4⟩
      have HL4 := Lib.hid (HL1.out.trans (hL4.mono HL1.out.size))
      clear hL4 HL1
      go_wp2_with fail
      go_ret
      exact ⟨rfl, HL4.out⟩
end Go.Proofs.Ytebgehmgjafblaa
