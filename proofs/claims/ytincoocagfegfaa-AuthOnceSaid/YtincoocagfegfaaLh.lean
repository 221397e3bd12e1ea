/- What is proved here: the walk of Long, with what a false answer says. -/
import Derived.Test.YtincoocagfegfaaOl
import Derived.Test.YtincoocagfegfaaMem
import Derived.Deep.LoopGhost
set_option linter.unusedVariables false
set_option linter.unusedSimpArgs false
namespace Go.Proofs.Ytincoocagfegfaa
open Go.RowKit
set_option maxHeartbeats 4000000 in
set_option maxRecDepth 100000 in
theorem Long_le (a : Option Addr) (n cap : Nat) (S : Nat → ByteArray) (most : Int) (w : World) (hm0 : 0 ≤ most) (hm1 : most ≤ 1000000) (hn : n ≤ 9223372036854775807) (hR : RowAt w a n (fun i => .string (S i))) :
    Calls Try.prog 11 #[.slice a n cap, .int .i64 most] w fun e w' => ∃ b, e = .returned (.bool b) ∧ (b = false → (n : Int) ≤ most ∧ ∀ i, i < n → ((S i).size : Int) < most) ∧ Below w.heap.size w w' := by
  have HR := Lib.hid hR; clear hR
  go_enter Try.func11, Try.ntmps11
  go_wp2_with fail
  go_loopg [1, 5] n (fun m q i wr => ∃ k : Nat, ∃ M : Int, k ≤ n ∧ m = n - k ∧ 0 ≤ M ∧ M ≤ 1000000 ∧ ((k : Int) + M ≤ most ∧ ∀ i, i < k → ((S i).size : Int) < most) ∧ q = .int .i64 M ∧ i = .int .i64 k ∧ Below w.heap.size w wr)
  case atStart => exact ⟨0, most, by omega, by omega, hm0, hm1, ⟨by omega, fun i hi => by omega⟩, rfl, rfl, Below.refl _ _⟩
  case round =>
    obtain ⟨k, M, hk, hm, hM0, hM1, hQ, rfl, rfl, hL⟩ := hrel
    have HQ := Lib.hid hQ
    clear hQ
    by_cases hlt : k < n
    · obtain ⟨b, off, rfl, hb, c1⟩ := HR.out k hlt
      have hkk : (0 : Int) ≤ k := by omega
      have hkn : (k : Int) < n := by omega
      dsimp only at c1
      have c1' := (hL.cell (p := ⟨b, off + k, none⟩) hb).trans c1
      obtain ⟨s, hs⟩ : ∃ s, s = S k := ⟨_, rfl⟩
      rw [← hs] at c1'
      have HSS := Lib.hid hs
      have HL := Lib.hid hL; clear hL hs c1
      by_cases hge : M ≤ (s.size : Int)
      · go_wp2_with fail
        go_ret
        exact ⟨_, rfl, (fun h => by cases h), HL.out⟩
      · have hw1 : IntKind.i64.wrap (M - (s.size : Int)) = M - (s.size : Int) := IntWalk.i64_in _ (by omega)
        have hw2 : IntKind.i64.wrap (M - (s.size : Int) - 1) = M - (s.size : Int) - 1 := IntWalk.i64_in _ (by omega)
        have hw3 : IntKind.i64.wrap ((k : Int) + 1) = (k : Int) + 1 := IntWalk.i64_in _ (by omega)
        go_wp2_with fail
        go_roundg (n - (k + 1))
        case measure => omega
        case rel =>
          refine ⟨k + 1, M - (s.size : Int) - 1, by omega, rfl, by omega, by omega, ⟨?_, fun i hi => ?_⟩, rfl, by go_num, HL.out⟩
          · have := HQ.out.1; push_cast; omega
          · by_cases h : i < k
            · exact HQ.out.2 i h
            · obtain rfl : i = k := by omega
              rw [← HSS.out]
              have := HQ.out.1
              omega
    · obtain rfl : k = n := by omega
      go_wp2_with fail
      go_ret
      exact ⟨_, rfl, fun _ => ⟨by have := HQ.out.1; omega, HQ.out.2⟩, hL⟩
end Go.Proofs.Ytincoocagfegfaa
