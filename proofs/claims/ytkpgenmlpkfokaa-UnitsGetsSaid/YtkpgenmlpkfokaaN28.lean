/- What is proved here: what Get answers for any string, in the program and the reference. -/
import Derived.Test.YtkpgenmlpkfokaaN27a
import Derived.Test.YtkpgenmlpkfokaaN27b
import Derived.Test.YtkpgenmlpkfokaaN27c
set_option linter.unusedVariables false
set_option linter.unusedSimpArgs false
namespace Go.Proofs.Ytkpgenmlpkfokaa
open Go.RowKit
theorem uGet_any (b : ByteArray) (w : World) : Calls Try.prog 17 #[.string b] w (GetPost b w) := by
  by_cases h : 6 ≤ b.size ∧ b.size ≤ 167
  · by_cases h2 : sumB (b.data.toList.take (b.size - 2)) = b.data.toList
    · exact uGet_main b w h h2
    · exact uGet_sum b w h h2
  · exact uGet_out b w h
theorem vGet_any (b : ByteArray) (w : World) : Calls Try.prog 18 #[.string b] w (VPost b w) := by
  by_cases h : 6 ≤ b.size ∧ b.size ≤ 167
  · by_cases h2 : (vnum b (b.size - 2) 2 : Int) = w16 (sum16 (b.extract 0 (b.size - 2)).data.toList)
    · by_cases h0 : kindOf (b.extract 0 (b.size - 2)) = 0 ∨ 6 < kindOf (b.extract 0 (b.size - 2))
      · exact vGet_ko b w h h2 h0
      · rcases (by omega : kindOf (b.extract 0 (b.size - 2)) = 1 ∨ kindOf (b.extract 0 (b.size - 2)) = 2 ∨ kindOf (b.extract 0 (b.size - 2)) = 3 ∨ kindOf (b.extract 0 (b.size - 2)) = 4 ∨ kindOf (b.extract 0 (b.size - 2)) = 5 ∨ kindOf (b.extract 0 (b.size - 2)) = 6) with e | e | e | e | e | e
        · exact vGet_k1 b w h h2 e
        · exact vGet_k2 b w h h2 e
        · exact vGet_k3 b w h h2 e
        · exact vGet_k4 b w h h2 e
        · exact vGet_k5 b w h h2 e
        · exact vGet_k6 b w h h2 e
    · exact vGet_sum b w h h2
  · exact vGet_out b w h
end Go.Proofs.Ytkpgenmlpkfokaa
