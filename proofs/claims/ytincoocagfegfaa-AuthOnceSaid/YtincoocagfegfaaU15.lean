/- What is proved here: the walks of the reference of guards: number and Saved. -/
import Derived.Test.YtincoocagfegfaaU11
import Derived.Test.YtincoocagfegfaaU6
set_option linter.unusedVariables false
set_option linter.unusedSimpArgs false
namespace Go.Proofs.Ytincoocagfegfaa
open Go.RowKit
theorem num_step (x : BitVec 64) (c : UInt8) : w64 (x <<< 8 + z8 c) = w64 (x <<< 8 ||| z8 c) := by rw [shl_add_byte]
set_option maxHeartbeats 1000000 in
set_option maxRecDepth 100000 in
theorem qnumber_any (b : ByteArray) (w : World) (hb : b.size ≤ 1000000) : Calls Try.prog 33 #[.string b] w fun e w' => e = .returned (.int .u64 (w64 (num64 b.data.toList))) ∧ w = w' := by
  go_enter Try.func33, Try.ntmps33
  go_wp2_with fail
  go_loop [3, 4] (fun s i => ∃ k : Nat, k ≤ b.size ∧ i = .int .i64 k ∧ s = .int .u64 (w64 (num64 (b.data.toList.take k)))) (fun _ i => b.size - (intOf i).toNat)
  case atStart => exact ⟨0, Nat.zero_le _, rfl, by simp [num64]; rfl⟩
  case round =>
    obtain ⟨i, hi, rfl, rfl⟩ := hrel
    by_cases hlt : i < b.size
    · obtain ⟨s, hs⟩ : ∃ s, s = num64 (b.data.toList.take i) := ⟨_, rfl⟩
      rw [← hs]
      have HS := Lib.hid hs; clear hs
      have HST := Lib.hid (num_step s b[i])
      go_wp2_with fail
      go_round
      case rel => exact ⟨i + 1, by omega, by go_num, by rw [take_succ_str b i hlt, num64_snoc, ← HS.out]; exact congrArg (Value.int .u64) HST.out⟩
      case measure => simp [intOf]; omega
    · obtain rfl : i = b.size := by omega
      have e1 : b.data.toList.take b.size = b.data.toList := List.take_of_length_le (by simp)
      rw [e1]
      clear e1
      go_wp2_with fail
      go_ret
      exact ⟨rfl, rfl⟩
/-- A guard of the reference, in memory. -/
def Qd (W : World) (g : Nat) (key : ByteArray) (s : Gs) : Prop := Blk W g (.string key :: s.cells) 67
theorem Qd.below {W W' : World} {g B : Nat} {key : ByteArray} {s : Gs} (h : Qd W g key s) (k : Below B W W') (hg : g < B) : Qd W' g key s := Blk.below h k hg
theorem Qd.lt {W : World} {g : Nat} {key : ByteArray} {s : Gs} (h : Qd W g key s) : g < W.heap.size := Blk.lt h
theorem qlast_cell {W : World} {g : Nat} {key : ByteArray} {s : Gs} (h : Qd W g key s) (c : Nat) (hc : c < 8) : W.cell? ⟨g, 2 + c, none⟩ = some (vu (s.l c)) := by
  rw [Blk.cell h (2 + c)]
  match c, hc with
  | 0, _ => rfl
  | 1, _ => rfl
  | 2, _ => rfl
  | 3, _ => rfl
  | 4, _ => rfl
  | 5, _ => rfl
  | 6, _ => rfl
  | 7, _ => rfl
theorem qset (l : List Value) (x u : Value) (k : Nat) : (x :: l).set (2 + k) u = x :: l.set (1 + k) u := by
  rw [show 2 + k = (1 + k) + 1 by omega]; rfl
theorem concat_eq (a b : ByteArray) (x y : List UInt8) (ha : a = ⟨x.toArray⟩) (hb : b = ⟨y.toArray⟩) : a ++ b = ⟨(x ++ y).toArray⟩ := by
  rw [ha, hb]; apply ByteArray.ext; simp
set_option maxHeartbeats 4000000 in
set_option maxRecDepth 100000 in
theorem qSaved_any (g : Nat) (key : ByteArray) (s : Gs) (w : World) (hB : Qd w g key s) : Calls Try.prog 34 #[.pointer (some ⟨g, 0, none⟩)] w fun e w' => e = .returned (strOf (textL s)) ∧ Below w.heap.size w w' := by
  have HB := Lib.hid hB
  have c1 := Blk.cell hB 1
  simp only [Gs.cells, vu, List.getElem?_cons_zero, List.getElem?_cons_succ] at c1
  have HBT := Lib.hid (fun k => bodyT_take s k)
  have HLN := Lib.hid (fun k => be8s_length s k)
  have HT := Lib.hid (show textL s = (be8 s.ser ++ (List.range 8).flatMap (fun i => be8 (s.l i))) ++ be4 (sum32 (be8 s.ser ++ (List.range 8).flatMap (fun i => be8 (s.l i)))) from rfl)
  clear hB
  go_enter Try.func34, Try.ntmps34
  go_wp2_with fail
  refine (qeight_any s.ser _).mono ?_
  rintro e w1 ⟨rfl, hL⟩
  have HL := Lib.hid hL
  replace HB := Lib.hid (HB.out.below hL HB.out.lt)
  clear hL c1
  unfold strOf
  go_wp2_with fail
  go_loopw [3, 4] (fun out i wr => ∃ k : Nat, k ≤ 8 ∧ i = .int .i64 k ∧ Below w.heap.size w wr ∧ Qd wr g key s ∧ out = .string ⟨(be8 s.ser ++ (List.range k).flatMap (fun i => be8 (s.l i))).toArray⟩) (fun _ i _ => 8 - (intOf i).toNat)
  case atStart => exact ⟨0, by omega, rfl, HL.out, HB.out, by simp⟩
  case round =>
    clear HL HB
    obtain ⟨k, hk, rfl, hL, hB, rfl⟩ := hrel
    have HL := Lib.hid hL; have HB := Lib.hid hB; clear hL hB
    obtain ⟨l, hl⟩ : ∃ l, l = be8 s.ser ++ (List.range k).flatMap (fun i => be8 (s.l i)) := ⟨_, rfl⟩
    have hls : l.length ≤ 72 := by rw [hl, List.length_append, HLN.out, be8_length']; omega
    rw [← hl]
    obtain ⟨t, ht⟩ : ∃ t : ByteArray, t = ⟨l.toArray⟩ := ⟨_, rfl⟩
    have hts : t.size ≤ 72 := by rw [ht]; show l.toArray.size ≤ _; simpa using hls
    by_cases hlt : k < 8
    · rw [← ht]
      have c2 := qlast_cell HB.out k hlt
      unfold vu at c2
      have HTL := Lib.hid ht
      have HLL := Lib.hid hl
      clear ht hl
      go_wp2_with fail
      refine (qeight_any (s.l k) _).mono ?_
      rintro e w2 ⟨rfl, hL⟩
      obtain ⟨t2, ht2⟩ : ∃ t2 : ByteArray, t2 = ⟨(be8 (s.l k)).toArray⟩ := ⟨_, rfl⟩
      have ht2s : t2.size ≤ 8 := by rw [ht2]; show (be8 (s.l k)).toArray.size ≤ _; simp [be8]
      rw [show strOf (be8 (s.l k)) = .string t2 by rw [ht2]; rfl]
      have HT2 := Lib.hid ht2
      replace HL := Lib.hid (HL.out.trans (hL.mono HL.out.size))
      replace HB := Lib.hid (HB.out.below hL HB.out.lt)
      clear hL ht2 c2
      go_wp2_with fail
      go_roundw
      case rel => exact ⟨k + 1, by omega, by go_num, HL.out, HB.out, by rw [HBT.out, ← List.append_assoc, ← HLL.out]; exact congrArg Value.string (concat_eq _ _ _ _ HTL.out HT2.out)⟩
      case measure => simp [intOf]; omega
    · obtain rfl : k = 8 := by omega
      rw [← ht]
      rw [← hl] at HT
      obtain ⟨x, hx⟩ : ∃ x, x = sum32 l := ⟨_, rfl⟩
      rw [← hx] at HT
      have h32 := rSum32 t wr (by omega)
      rw [show t.data.toList = l by rw [ht], ← hx] at h32
      have H32 := Lib.hid h32
      have HTL := Lib.hid ht
      clear ht hl hx h32
      go_wp2_with fail
      refine H32.out.mono ?_
      rintro e _ ⟨rfl, rfl⟩
      go_wp2_with fail
      rw [wrap_u64_w32]
      refine (qeight_any (x.setWidth 64) _).mono ?_
      rintro e w2 ⟨rfl, hL⟩
      obtain ⟨t3, ht3⟩ : ∃ t3 : ByteArray, t3 = ⟨(be8 (x.setWidth 64)).toArray⟩ := ⟨_, rfl⟩
      have ht3s : t3.size ≤ 8 := by rw [ht3]; show (be8 _).toArray.size ≤ _; simp [be8]
      have ht3g : 4 ≤ t3.size := by rw [ht3]; show _ ≤ (be8 _).toArray.size; simp [be8]
      rw [show strOf (be8 (x.setWidth 64)) = .string t3 by rw [ht3]; rfl]
      have HT3 := Lib.hid ht3
      replace HL := Lib.hid (HL.out.trans (hL.mono HL.out.size))
      clear hL ht3
      go_wp2_with fail
      go_ret
      refine ⟨?_, HL.out⟩
      rw [HT.out]
      have he : t3.extract 4 t3.size = ⟨(be4 x).toArray⟩ := by
        apply ByteArray.ext
        apply Array.ext'
        rw [extract_list, HT3.out]
        unfold be4
        rw [List.take_of_length_le]
        rw [List.length_drop]
        show _ ≤ (be8 (x.setWidth 64)).toArray.size - 4
        simp
      exact congrArg (fun b => Ending.returned (Value.string b)) (concat_eq _ _ _ _ HTL.out he)
set_option maxHeartbeats 4000000 in
set_option maxRecDepth 100000 in
theorem qread_short (t : ByteArray) (w : World) (h76 : t.size ≠ 76) : Calls Try.prog 24 #[.string t] w fun e w' => e = .returned (.tuple #[.pointer none, .bool false]) ∧ Below w.heap.size w w' := by
  have d0 : ((t.size : Int) != 76) = true := by rw [bne_iff_ne]; omega
  clear h76
  go_enter Try.func24, Try.ntmps24
  go_wp2_with fail
  go_ret2
  exact ⟨rfl, Below.refl _ _⟩
set_option maxHeartbeats 4000000 in
set_option maxRecDepth 100000 in
theorem qread_any (t : ByteArray) (w : World) (h76 : t.size = 76) : Calls Try.prog 24 #[.string t] w fun e w' => ∃ g, e = .returned (.tuple #[.pointer (some ⟨g, 0, none⟩), .bool (isSaved t.data.toList)]) ∧ w.heap.size ≤ g ∧ Qd w' g ⟨#[]⟩ (readL t.data.toList) ∧ Below w.heap.size w w' := by
  have d0 : ((t.size : Int) != 76) = false := by rw [h76]; rfl
  have hsv : isSaved t.data.toList = (textL (readL t.data.toList) == t.data.toList) := by
    unfold isSaved
    rw [decide_eq_true (by simpa using h76), Bool.true_and]
  rw [hsv]
  obtain ⟨s, hs⟩ : ∃ s, s = readL t.data.toList := ⟨_, rfl⟩
  rw [← hs]
  have hn0 : s.ser = num64 (t.extract 0 8).data.toList := by rw [hs, extract_list]; simp [readL]
  have hnk : ∀ k, s.l k = num64 (t.extract (8 + 8 * k) (16 + 8 * k)).data.toList := fun k => by rw [hs, extract_list, show 16 + 8 * k - (8 + 8 * k) = 8 by omega]; rfl
  have HN0 := Lib.hid (fun w => qnumber_any (t.extract 0 8) w (by simp; omega))
  rw [← hn0] at HN0
  have HNK := Lib.hid (fun k w => (qnumber_any (t.extract (8 + 8 * k) (16 + 8 * k)) w (by simp; omega)))
  simp only [← hnk] at HNK
  have HNR := Lib.hid (fun k W => (HNK.out k W).mono (fun e w' h => (⟨_, h.1, rfl, h.2⟩ : ∃ v, e = .returned v ∧ (v = .int .u64 (w64 (s.l k)) ∧ W = w'))))
  have hts : 76 ≤ t.size := by omega
  have HT := Lib.hid (fun g w h => qSaved_any g ⟨#[]⟩ s w h)
  obtain ⟨tx, htx⟩ : ∃ tx : ByteArray, tx = ⟨(textL s).toArray⟩ := ⟨_, rfl⟩
  have heq : (textL s == t.data.toList) = (tx.toList == t.toList) := by rw [htx, toList_data, toList_data]
  rw [show strOf (textL s) = .string tx by rw [htx]; rfl] at HT
  rw [heq]
  clear h76 hsv hs hn0 hnk HNK htx heq
  go_enter Try.func24, Try.ntmps24
  go_wp2_with fail
  refine (HN0.out _).mono ?_
  rintro e _ ⟨rfl, rfl⟩
  obtain ⟨g, hg⟩ : ∃ g, g = w.heap.size := ⟨_, rfl⟩
  go_wp2_with fail
  rw [← hg]
  have hB0 : Blk (w.alloc (Obj.cells #[.string ⟨#[]⟩, .int .u64 (w64 s.ser), .int .u64 0, .int .u64 0, .int .u64 0, .int .u64 0, .int .u64 0, .int .u64 0, .int .u64 0, .int .u64 0] 67)) g (.string ⟨#[]⟩ :: (s.part 0).cells) 67 := by
    rw [part0_cells, hg]; exact Blk.new _ _ _
  have hL0 : Below w.heap.size w (w.alloc (Obj.cells #[.string ⟨#[]⟩, .int .u64 (w64 s.ser), .int .u64 0, .int .u64 0, .int .u64 0, .int .u64 0, .int .u64 0, .int .u64 0, .int .u64 0, .int .u64 0] 67)) := (Below.refl _ _).alloc (Nat.le_refl _) _
  have hgw : w.heap.size ≤ g := by omega
  clear hg HN0
  go_loopw [5] (fun i wr => ∃ k : Nat, k ≤ 8 ∧ i = .int .i64 k ∧ Below w.heap.size w wr ∧ Blk wr g (.string ⟨#[]⟩ :: (s.part k).cells) 67) (fun i _ => 8 - (intOf i).toNat)
  case atStart => exact ⟨0, by omega, rfl, hL0, hB0⟩
  case round =>
    clear hL0 hB0
    obtain ⟨k, hk, rfl, hL, hB⟩ := hrel
    have HL := Lib.hid hL; have HB := Lib.hid hB; clear hL hB
    by_cases hlt : k < 8
    · obtain ⟨u, hu⟩ := part_cell s k (1 + k) (by omega)
      have c0 : wr.cell? ⟨g, 2 + k, none⟩ = some u := by rw [HB.out.cell (2 + k), show 2 + k = (1 + k) + 1 by omega]; exact hu
      have f0 := HB.out.free (2 + k)
      have hnc := HNR.out k
      obtain ⟨c8, hc8⟩ : ∃ c8 : Int, c8 = 8 * (k : Int) := ⟨_, rfl⟩
      obtain ⟨m8, hm8⟩ : ∃ m8 : Nat, m8 = 8 + 8 * k := ⟨_, rfl⟩
      obtain ⟨m16, hm16⟩ : ∃ m16 : Nat, m16 = 16 + 8 * k := ⟨_, rfl⟩
      have e0 : IntKind.i64.wrap (8 * (k : Int)) = c8 := by rw [IntKind.wrap_i64]; omega
      have e1 : IntKind.i64.wrap (8 + c8) = (m8 : Int) := by rw [IntKind.wrap_i64]; omega
      have e2 : IntKind.i64.wrap (16 + c8) = (m16 : Int) := by rw [IntKind.wrap_i64]; omega
      have k1 : m8 ≤ m16 := by omega
      have k2 : m16 ≤ t.size := by omega
      rw [← hm8, ← hm16] at hnc
      have HNC := Lib.hid hnc
      clear hu hnc hc8 hm8 hm16
      go_upto_region 7 with fail
      go_region_law (refine step_call rfl 33 _ _ rfl #[.string (t.extract m8 m16)] (by kernel_rfl) _ (HNC.out _) ?_; rintro v5 w5 ⟨rfl, rfl⟩)
      all_goals
        go_wp2_with fail
        go_roundw
        case rel => exact ⟨k + 1, by omega, by go_num, (HL.out.trans ((below_quiet wr 1).1.mono HL.out.size)).setCell hgw _, by rw [← part_set s k hlt, ← qset]; exact HB.out.drew.set (2 + k) _⟩
        case measure => simp [intOf]; omega
    · obtain rfl : k = 8 := by omega
      have hB := HB.out
      rw [part_all] at hB
      have HQ := Lib.hid (show Qd wr g ⟨#[]⟩ s from hB)
      clear hB HB
      go_wp2_with fail
      refine (HT.out g _ HQ.out).mono ?_
      rintro e w2 ⟨rfl, hL⟩
      replace HL := Lib.hid (HL.out.trans (hL.mono HL.out.size))
      replace HQ := Lib.hid (HQ.out.below hL HQ.out.lt)
      clear hL
      go_wp2_with fail
      go_ret2
      exact ⟨g, rfl, hgw, HQ.out, HL.out⟩
end Go.Proofs.Ytincoocagfegfaa
