/- What is proved here: the walk of Long. -/
import Derived.Test.YtebgehmgjafblaaO14t
import Derived.Test.YtebgehmgjafblaaMem
import Derived.Deep.LoopGhost
set_option linter.unusedVariables false
set_option linter.unusedSimpArgs false
namespace Go.Proofs.Ytebgehmgjafblaa
open Go.RowKit
set_option maxHeartbeats 4000000 in
set_option maxRecDepth 100000 in
theorem Long_any (a : Option Addr) (n cap : Nat) (S : Nat → ByteArray) (most : Int) (w : World) (hm0 : 0 ≤ most) (hm1 : most ≤ 1000000) (hn : n ≤ 9223372036854775807) (hR : RowAt w a n (fun i => .string (S i))) :
    Calls Try.prog 25 #[.slice a n cap, .int .i64 most] w fun e w' => ∃ b, e = .returned (.bool b) ∧ Below w.heap.size w w' := by
  have HR := Lib.hid hR; clear hR
  go_enter Try.func25, Try.ntmps25
  go_wp2_with fail
  go_loopg [1, 5] n (fun m q i wr => ∃ k : Nat, ∃ M : Int, k ≤ n ∧ m = n - k ∧ 0 ≤ M ∧ M ≤ 1000000 ∧ q = .int .i64 M ∧ i = .int .i64 k ∧ Below w.heap.size w wr)
  case atStart => exact ⟨0, most, by omega, by omega, hm0, hm1, rfl, rfl, Below.refl _ _⟩
  case round =>
    obtain ⟨k, M, hk, hm, hM0, hM1, rfl, rfl, hL⟩ := hrel
    by_cases hlt : k < n
    · obtain ⟨b, off, rfl, hb, c1⟩ := HR.out k hlt
      have hkk : (0 : Int) ≤ k := by omega
      have hkn : (k : Int) < n := by omega
      dsimp only at c1
      have c1' := (hL.cell (p := ⟨b, off + k, none⟩) hb).trans c1
      obtain ⟨s, hs⟩ : ∃ s, s = S k := ⟨_, rfl⟩
      rw [← hs] at c1'
      have HL := Lib.hid hL; clear hL hs c1
      by_cases hge : M ≤ (s.size : Int)
      · go_wp2_with fail
        go_ret
        exact ⟨_, rfl, HL.out⟩
      · have hw1 : IntKind.i64.wrap (M - (s.size : Int)) = M - (s.size : Int) := IntWalk.i64_in _ (by omega)
        have hw2 : IntKind.i64.wrap (M - (s.size : Int) - 1) = M - (s.size : Int) - 1 := IntWalk.i64_in _ (by omega)
        have hw3 : IntKind.i64.wrap ((k : Int) + 1) = (k : Int) + 1 := IntWalk.i64_in _ (by omega)
        go_wp2_with fail
        go_roundg (n - (k + 1))
        case measure => omega
        case rel => exact ⟨k + 1, M - (s.size : Int) - 1, by omega, rfl, by omega, by omega, rfl, by go_num, HL.out⟩
    · obtain rfl : k = n := by omega
      go_wp2_with fail
      go_ret
      exact ⟨_, rfl, hL⟩
end Go.Proofs.Ytebgehmgjafblaa
