/- What is proved here: walks of the sums of the checksums. -/
import Derived.Test.YtbncejmohhejlaaC1
set_option linter.unusedVariables false
set_option linter.unusedSimpArgs false
namespace Go.Proofs.Ytbncejmohhejlaa
open Go.RowKit
theorem take_succ_str (b : ByteArray) (k : Nat) (h : k < b.size) : b.data.toList.take (k + 1) = b.data.toList.take k ++ [b[k]] := by
  rw [List.take_succ_eq_append_getElem (by simpa using h)]; rfl
theorem wrap_u8_w16 (x : BitVec 16) : IntKind.u8.wrap (w16 x) = ((loB x).toNat : Int) := by
  rw [IntKind.wrap_u8', loB_toNat, w16]; omega
theorem wrap_u8_w32 (x : BitVec 32) : IntKind.u8.wrap (w32 x) = ((loB x).toNat : Int) := by
  rw [IntKind.wrap_u8', loB_toNat, w32]; omega
def ix (a b : UInt8) : Nat := (a ^^^ b).toNat
theorem ix_lt (a b : UInt8) : ix a b < 256 := (a ^^^ b).toNat_lt
theorem xor_u8 (a b : UInt8) : bits .xor .u8 (a.toNat : Int) (b.toNat : Int) = ((ix a b : Nat) : Int) := by
  rw [u8_xor_nat _ _ a.toNat_lt b.toNat_lt, ix, UInt8.toNat_xor]
theorem not16 (x : BitVec 16) : bits .xor .u16 IntKind.u16.max (w16 x) = w16 (~~~ x) := by
  rw [show IntKind.u16.max = w16 (BitVec.allOnes 16) by decide, w16_xor, BitVec.allOnes_xor]
theorem not32 (x : BitVec 32) : bits .xor .u32 IntKind.u32.max (w32 x) = w32 (~~~ x) := by
  rw [show IntKind.u32.max = w32 (BitVec.allOnes 32) by decide, w32_xor, BitVec.allOnes_xor]
attribute [local go_sem] wrap_u8_w16 wrap_u8_w32 xor_u8 not16 not32
theorem row_at (w : World) (n g i : Nat) (t : TypeId) (f : Nat → Value) (hB : Blk w g ((List.range n).map f) t) (h : i < n) : w.cell? ⟨g, i, none⟩ = some (f i) := by
  rw [hB.cell i]; simp [h]
set_option maxHeartbeats 2000000 in
set_option maxRecDepth 100000 in
theorem Next16_any (r : BitVec 16) (b : ByteArray) (w : World) (hb : b.size ≤ 1000000000) : Calls Try.prog 77 #[.int .u16 (w16 r), .string b] w fun e w' => e = .returned (.int .u16 (w16 (next16 r b.data.toList))) ∧ Below w.heap.size w w' := by
  go_enter Try.func77, Try.ntmps77
  go_wp2_with fail
  refine (bytes16_any _).mono ?_
  rintro e w1 ⟨rfl, hL1⟩
  have HL1 := Lib.hid hL1
  have hls := hL1.size
  clear hL1
  go_wp2_with (first | (refine wpList_alloc_zero rfl _ rfl (row16 0) alloc16 ?_) | (refine wpList_store_whole rfl _ _ _ rfl w1.heap.size rfl (row16 256) rfl _ (row16 0) (Blk.new w1 (row16 0) _) (by kernel_rfl) (by simp [row16_length]) (row16_one 256) ?_; intro w2 hK2 hB2))
  have HL2 := Lib.hid (((HL1.out.alloc hls (.cells (row16 0).toArray 141)).trans (hK2.toBelowAt (by simp; omega) (by simp; omega))))
  have HB2 := Lib.hid hB2
  clear hB2 hK2 HL1
  go_loop [0, 10] (fun s i => ∃ k : Nat, k ≤ b.size ∧ i = .int .i64 k ∧ s = .int .u16 (w16 (next16 r (b.data.toList.take k)))) (fun _ i => b.size - (intOf i).toNat)
  case atStart => exact ⟨0, Nat.zero_le _, rfl, by simp [next16_nil]⟩
  case round =>
    obtain ⟨k, hk, rfl, rfl⟩ := hrel
    by_cases hlt : k < b.size
    · have hi : ix (loB (next16 r (b.data.toList.take k) >>> 8)) b[k] < 256 := ix_lt _ _
      have c0 : w2.cell? ⟨w1.heap.size, ix (loB (next16 r (b.data.toList.take k) >>> 8)) b[k], none⟩ = some (.int .u16 (w16 (tab16 (ix (loB (next16 r (b.data.toList.take k) >>> 8)) b[k])))) := by
        have := row_at w2 256 w1.heap.size (ix (loB (next16 r (b.data.toList.take k) >>> 8)) b[k]) _ _ HB2.out hi
        rw [this, if_pos hi]; rfl
      have HS := Lib.hid (next16_snoc r (b.data.toList.take k) b[k])
      go_wp2_with fail
      go_round
      case rel => exact ⟨k + 1, by omega, by go_num, by rw [take_succ_str b k hlt, HS.out]; rfl⟩
      case measure => simp [intOf]; omega
    · obtain rfl : k = b.size := by omega
      have e1 : b.data.toList.take b.size = b.data.toList := List.take_of_length_le (by simp)
      rw [e1]
      clear e1
      go_wp2_with fail
      go_ret
      exact ⟨rfl, HL2.out⟩
end Go.Proofs.Ytbncejmohhejlaa
