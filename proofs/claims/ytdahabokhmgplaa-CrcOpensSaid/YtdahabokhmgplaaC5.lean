/- What is proved here: walks of Join16 and Join32. -/
import Derived.Test.YtdahabokhmgplaaC4
set_option linter.unusedVariables false
set_option linter.unusedSimpArgs false
namespace Go.Proofs.Ytdahabokhmgplaa
open Go.RowKit
attribute [local go_sem] wrap_u8_w16 wrap_u8_w32 not16 not32
theorem pow16 (k : Nat) (h : k < 16) : IntKind.u16.wrap (2 ^ k) = w16 (1#16 <<< k) := by
  have h1 := w16_shl 1#16 k
  rw [← h1]; congr 1
  rw [show w16 1#16 = 1 by decide]; simp
set_option maxHeartbeats 2000000 in
set_option maxRecDepth 100000 in
theorem Join16_bad (a b : BitVec 16) (n : Int) (w : World) (hn : n < 0 ∨ 1073741824 < n) :
    Calls Try.prog 18 #[.int .u16 (w16 a), .int .u16 (w16 b), .int .i64 n] w fun e w' => e = .returned (.tuple #[.int .u16 0, .int .i64 2]) ∧ Below w.heap.size w w' := by
  rcases hn with hn | hn
  · have h1 : decide (n < 0) = true := by simpa using hn
    go_enter Try.func18, Try.ntmps18
    go_wp2_with fail
    go_ret2
    exact ⟨rfl, Below.refl _ _⟩
  · have h1 : decide (n < 0) = false := by simp; omega
    have h2 : decide (1073741824 < n) = true := by simpa using hn
    go_enter Try.func18, Try.ntmps18
    go_wp2_with fail
    go_ret2
    exact ⟨rfl, Below.refl _ _⟩
set_option maxHeartbeats 4000000 in
set_option maxRecDepth 100000 in
theorem Join16_ok (a b : BitVec 16) (n : Nat) (w : World) (hn : n ≤ 1073741824) :
    Calls Try.prog 18 #[.int .u16 (w16 a), .int .u16 (w16 b), .int .i64 n] w fun e w' => e = .returned (.tuple #[.int .u16 (w16 (b ^^^ iter zb16 n (~~~ a))), .int .i64 0]) ∧ Below w.heap.size w w' := by
  have h1 : decide ((n : Int) < 0) = false := by simp
  have h2 : decide ((1073741824 : Int) < (n : Int)) = false := by simp; omega
  have hmk := make16 (fun i => zb16 (1#16 <<< i))
  go_enter Try.func18, Try.ntmps18
  go_wp2_with fail
  refine (bytes16_any _).mono ?_
  rintro e w1 ⟨rfl, hL1⟩
  have HL1 := Lib.hid hL1
  have hls := hL1.size
  clear hL1
  go_wp2_with (first | (refine wpList_alloc_zero rfl _ rfl (row16 0) alloc16 ?_) | (refine wpList_store_whole rfl _ _ _ rfl w1.heap.size rfl (row16 256) rfl _ (row16 0) (Blk.new w1 (row16 0) _) (by kernel_rfl) (by simp [row16_length]) (row16_one 256) ?_; intro w2 hK2 hB2))
  have hls2 : w.heap.size ≤ w2.heap.size := by have := hK2.size; simp at this; omega
  have HL2 := Lib.hid (((HL1.out.alloc hls (.cells (row16 0).toArray 47)).trans (hK2.toBelowAt (by simp; omega) (by simp; omega))))
  have hg1 := hB2.lt
  refine gen_world (fun w' => Below w.heap.size w w' ∧ Blk w' w1.heap.size (row16 256) 47 ∧ Blk w' w2.heap.size ((fill16 (fun i => zb16 (1#16 <<< i)) 0).map v16) 22) ⟨HL2.out.alloc hls2 _, hB2.alloc _, Blk.new w2 _ _⟩ ?_
  clear hmk hB2 hK2 HL1 HL2
  rintro w3 ⟨hL3, hA3, hB3⟩
  have HL3 := Lib.hid hL3; have HA3 := Lib.hid hA3; have HB3 := Lib.hid hB3; clear hL3 hA3 hB3
  go_loopw [22] (fun i wr => ∃ k : Nat, k ≤ 16 ∧ i = .int .i64 k ∧ Below w.heap.size w wr ∧ Blk wr w1.heap.size (row16 256) 47 ∧ Blk wr w2.heap.size ((fill16 (fun i => zb16 (1#16 <<< i)) k).map v16) 22) (fun i _ => 16 - (intOf i).toNat)
  case atStart => exact ⟨0, by omega, rfl, HL3.out, HA3.out, HB3.out⟩
  case round =>
    obtain ⟨k, hk, rfl, hL, hA, hB⟩ := hrel
    by_cases hlt : k < 16
    · have hp := pow16 k hlt
      have hp2 : (2 : Int) ^ k % 65536 = w16 (1#16 <<< k) := by rw [← hp, IntKind.wrap_u16]
      obtain ⟨j, hj⟩ : ∃ j, j = (1#16 <<< k >>> 8).toNat := ⟨_, rfl⟩
      have hj8 : j < 256 := by rw [hj, BitVec.toNat_ushiftRight, Nat.shiftRight_eq_div_pow]; have := (1#16 <<< k).isLt; omega
      have hx : w16 (1#16 <<< k >>> 8) = (j : Int) := by rw [hj]; rfl
      have hz : zb16 (1#16 <<< k) = (1#16 <<< k) <<< 8 ^^^ tab16 j := by rw [zb16_tab, hj]
      have c0 : wr.cell? ⟨w1.heap.size, j, none⟩ = some (.int .u16 (w16 (tab16 j))) := by
        have := row_at wr 256 w1.heap.size j _ _ hA hj8
        rw [this, if_pos hj8]; rfl
      obtain ⟨u, c1⟩ := fill16_cell hB k hlt
      have f1 : wr.frozen? ⟨w2.heap.size, k, none⟩ = false := hB.free k
      have hne : ¬ w1.heap.size = w2.heap.size := by omega
      have HL := Lib.hid hL; have HA := Lib.hid hA; have HB := Lib.hid hB; have HZ := Lib.hid hz; have HJ := Lib.hid hj; clear hL hA hB hz hj
      go_wp2_with fail
      go_roundw
      case rel => exact ⟨k + 1, by omega, by go_num, HL.out.setCell hls2 _, HA.out.set_far hne _, by rw [← fill16_set _ k hlt, HZ.out]; exact HB.out.set k _⟩
      case measure => simp [intOf]; omega
    · obtain rfl : k = 16 := by omega
      have hM : mat16 wr w2.heap.size (matOf zb16) := ⟨by simp [matOf], by rw [fill16_all] at hB; exact hB⟩
      have HL := Lib.hid hL; have HM := Lib.hid hM; clear hL hA hB hM
      go_wp2_with fail
      refine (zeros16_any zb16 zb16_lin w2.heap.size (~~~ a) n hn wr HM.out).mono ?_
      rintro e w4 ⟨rfl, hL4⟩
      have HL4 := Lib.hid (HL.out.trans (hL4.mono HL.out.size)); clear hL4
      go_wp2_with fail
      go_ret2
      exact ⟨rfl, HL4.out⟩
theorem pow32 (k : Nat) (h : k < 32) : IntKind.u32.wrap (2 ^ k) = w32 (1#32 <<< k) := by
  have h1 := w32_shl 1#32 k
  rw [← h1]; congr 1
  rw [show w32 1#32 = 1 by decide]; simp
set_option maxHeartbeats 2000000 in
set_option maxRecDepth 100000 in
theorem Join32_bad (a b : BitVec 32) (n : Int) (w : World) (hn : n < 0 ∨ 1073741824 < n) :
    Calls Try.prog 20 #[.int .u32 (w32 a), .int .u32 (w32 b), .int .i64 n] w fun e w' => e = .returned (.tuple #[.int .u32 0, .int .i64 2]) ∧ Below w.heap.size w w' := by
  rcases hn with hn | hn
  · have h1 : decide (n < 0) = true := by simpa using hn
    go_enter Try.func20, Try.ntmps20
    go_wp2_with fail
    go_ret2
    exact ⟨rfl, Below.refl _ _⟩
  · have h1 : decide (n < 0) = false := by simp; omega
    have h2 : decide (1073741824 < n) = true := by simpa using hn
    go_enter Try.func20, Try.ntmps20
    go_wp2_with fail
    go_ret2
    exact ⟨rfl, Below.refl _ _⟩
set_option maxHeartbeats 4000000 in
set_option maxRecDepth 100000 in
theorem Join32_ok (a b : BitVec 32) (n : Nat) (w : World) (hn : n ≤ 1073741824) :
    Calls Try.prog 20 #[.int .u32 (w32 a), .int .u32 (w32 b), .int .i64 n] w fun e w' => e = .returned (.tuple #[.int .u32 (w32 (b ^^^ iter zb32 n a)), .int .i64 0]) ∧ Below w.heap.size w w' := by
  have h1 : decide ((n : Int) < 0) = false := by simp
  have h2 : decide ((1073741824 : Int) < (n : Int)) = false := by simp; omega
  have hmk := make32 (fun i => zb32 (1#32 <<< i))
  go_enter Try.func20, Try.ntmps20
  go_wp2_with fail
  refine (bytes32_any _).mono ?_
  rintro e w1 ⟨rfl, hL1⟩
  have HL1 := Lib.hid hL1
  have hls := hL1.size
  clear hL1
  go_wp2_with (first | (refine wpList_alloc_zero rfl _ rfl (row32 0) alloc32 ?_) | (refine wpList_store_whole rfl _ _ _ rfl w1.heap.size rfl (row32 256) rfl _ (row32 0) (Blk.new w1 (row32 0) _) (by kernel_rfl) (by simp [row32_length]) (row32_one 256) ?_; intro w2 hK2 hB2))
  have hls2 : w.heap.size ≤ w2.heap.size := by have := hK2.size; simp at this; omega
  have HL2 := Lib.hid (((HL1.out.alloc hls (.cells (row32 0).toArray 50)).trans (hK2.toBelowAt (by simp; omega) (by simp; omega))))
  have hg1 := hB2.lt
  refine gen_world (fun w' => Below w.heap.size w w' ∧ Blk w' w1.heap.size (row32 256) 50 ∧ Blk w' w2.heap.size ((fill32 (fun i => zb32 (1#32 <<< i)) 0).map v32) 23) ⟨HL2.out.alloc hls2 _, hB2.alloc _, Blk.new w2 _ _⟩ ?_
  clear hmk hB2 hK2 HL1 HL2
  rintro w3 ⟨hL3, hA3, hB3⟩
  have HL3 := Lib.hid hL3; have HA3 := Lib.hid hA3; have HB3 := Lib.hid hB3; clear hL3 hA3 hB3
  go_loopw [22] (fun i wr => ∃ k : Nat, k ≤ 32 ∧ i = .int .i64 k ∧ Below w.heap.size w wr ∧ Blk wr w1.heap.size (row32 256) 50 ∧ Blk wr w2.heap.size ((fill32 (fun i => zb32 (1#32 <<< i)) k).map v32) 23) (fun i _ => 32 - (intOf i).toNat)
  case atStart => exact ⟨0, by omega, rfl, HL3.out, HA3.out, HB3.out⟩
  case round =>
    obtain ⟨k, hk, rfl, hL, hA, hB⟩ := hrel
    by_cases hlt : k < 32
    · have hp := pow32 k hlt
      have hp2 : (2 : Int) ^ k % 4294967296 = w32 (1#32 <<< k) := by rw [← hp, IntKind.wrap_u32']
      obtain ⟨j, hj⟩ : ∃ j, j = (loB (1#32 <<< k)).toNat := ⟨_, rfl⟩
      have hj8 : j < 256 := by rw [hj]; exact (loB (1#32 <<< k)).toNat_lt
      have hx : ((loB (1#32 <<< k)).toNat : Int) = (j : Int) := by rw [hj]
      have hz : zb32 (1#32 <<< k) = (1#32 <<< k) >>> 8 ^^^ tab32 j := by rw [zb32_tab, hj, loB_toNat]
      have c0 : wr.cell? ⟨w1.heap.size, j, none⟩ = some (.int .u32 (w32 (tab32 j))) := by
        have := row_at wr 256 w1.heap.size j _ _ hA hj8
        rw [this, if_pos hj8]; rfl
      obtain ⟨u, c1⟩ := fill32_cell hB k hlt
      have f1 : wr.frozen? ⟨w2.heap.size, k, none⟩ = false := hB.free k
      have hne : ¬ w1.heap.size = w2.heap.size := by omega
      have HL := Lib.hid hL; have HA := Lib.hid hA; have HB := Lib.hid hB; have HZ := Lib.hid hz; have HJ := Lib.hid hj; clear hL hA hB hz hj
      go_wp2_with fail
      go_roundw
      case rel => exact ⟨k + 1, by omega, by go_num, HL.out.setCell hls2 _, HA.out.set_far hne _, by rw [← fill32_set _ k hlt, HZ.out]; exact HB.out.set k _⟩
      case measure => simp [intOf]; omega
    · obtain rfl : k = 32 := by omega
      have hM : mat32 wr w2.heap.size (matOf zb32) := ⟨by simp [matOf], by rw [fill32_all] at hB; exact hB⟩
      have HL := Lib.hid hL; have HM := Lib.hid hM; clear hL hA hB hM
      go_wp2_with fail
      refine (zeros32_any zb32 zb32_lin w2.heap.size a n hn wr HM.out).mono ?_
      rintro e w4 ⟨rfl, hL4⟩
      have HL4 := Lib.hid (HL.out.trans (hL4.mono HL.out.size)); clear hL4
      go_wp2_with fail
      go_ret2
      exact ⟨rfl, HL4.out⟩
end Go.Proofs.Ytdahabokhmgplaa
