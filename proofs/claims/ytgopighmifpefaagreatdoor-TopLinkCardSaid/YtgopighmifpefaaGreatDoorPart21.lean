/- What is proved here: a part of the proof of TopLink (texts G1 G2). No condition. -/
import Derived.Lib.Strings
import Derived.Deep.RegionHeld3
import Derived.Deep.RegionWith
import Derived.Test.YtgopighmifpefaaGreatDoorPart05
import Derived.Test.YtgopighmifpefaaGreatDoorPart19
set_option linter.unusedVariables false
set_option linter.unusedSimpArgs false
namespace Go.Proofs.YtgopighmifpefaaGreatDoor
section
open Go.RowKit
/-- The number that two bytes of a string are. -/
def nat2 (b : ByteArray) (i : Nat) : Nat := (b.data.toList.getD i 0).toNat * 256 + (b.data.toList.getD (i + 1) 0).toNat
theorem nat2_lt (b : ByteArray) (i : Nat) : nat2 b i < 65536 := by
  unfold nat2
  have h1 := (b.data.toList.getD i 0).toNat_lt
  have h2 := (b.data.toList.getD (i + 1) 0).toNat_lt
  omega
theorem ext_two (b : ByteArray) (i : Nat) (h : i + 2 ≤ b.size) : (b.extract i (i + 2)).data.toList = [b.data.toList.getD i 0, b.data.toList.getD (i + 1) 0] := by
  have hl : b.data.toList.length = b.size := by rw [← Lib.size_eq]
  rw [show (b.extract i (i + 2)).data.toList = (b.data.toList.drop i).take 2 by simp [ByteArray.data_extract, Array.toList_extract, List.extract_eq_take_drop]]
  rw [List.drop_eq_getElem_cons (by omega), List.drop_eq_getElem_cons (by omega)]
  simp [List.getD_eq_getElem?_getD, List.getElem?_eq_getElem (show i < b.data.toList.length by omega), List.getElem?_eq_getElem (show i + 1 < b.data.toList.length by omega)]
theorem number_two (b : ByteArray) (i : Nat) (h : i + 2 ≤ b.size) (w : World) : Calls Tryz.prog 96 #[.string (b.extract i (i + 2))] w fun e w' => e = .returned (.int .u64 (nat2 b i : Nat)) ∧ w = w' := by
  have hn := number_any (b.extract i (i + 2)) w (by simp; omega)
  rw [ext_two b i h, num64_two] at hn
  exact hn
set_option maxHeartbeats 4000000 in
set_option maxRecDepth 100000 in
theorem read_any (b : ByteArray) (w : World) (h4 : 4 ≤ b.size) : Calls Tryz.prog 67 #[.string b] w fun e w' => e = .returned (.agg #[.int .u16 (nat2 b 0 : Nat), .int .u16 (nat2 b 2 : Nat)]) ∧ Below w.heap.size w w' := by
  have hn1 := number_two b 0 (by omega)
  have hn2 := number_two b 2 (by omega)
  have hw1 : IntKind.u16.wrap (nat2 b 0 : Nat) = (nat2 b 0 : Nat) := IntWalk.u16_in _ (by have := nat2_lt b 0; omega)
  have hw2 : IntKind.u16.wrap (nat2 b 2 : Nat) = (nat2 b 2 : Nat) := IntWalk.u16_in _ (by have := nat2_lt b 2; omega)
  obtain ⟨x, hx⟩ : ∃ x, x = nat2 b 0 := ⟨_, rfl⟩
  obtain ⟨y, hy⟩ : ∃ y, y = nat2 b 2 := ⟨_, rfl⟩
  rw [← hx] at hn1 hw1 ⊢
  rw [← hy] at hn2 hw2 ⊢
  rw [Nat.zero_add] at hn1
  rw [show 2 + 2 = 4 from rfl] at hn2
  have HN1 := Lib.hid hn1; have HN2 := Lib.hid hn2
  clear hn1 hn2 hx hy
  have h2i : ((2 : Int) ≤ b.size) := by omega
  have h4i : ((4 : Int) ≤ b.size) := by omega
  go_enter Tryz.func67, Tryz.ntmps67
  go_wp2_with fail
  go_region_with (first | (go_at_call_of 96 (Value.string (b.extract 0 2)); refine (HN1.out _).mono ?_; rintro e w' ⟨rfl, rfl⟩) | (go_at_call_of 96 (Value.string (b.extract 2 4)); refine (HN2.out _).mono ?_; rintro e w' ⟨rfl, rfl⟩))
  go_wp2_with fail
  refine ret_cell rfl w.heap.size 151 [.int .u16 x, .int .u16 y] rfl ((Blk.new w _ _).drew) Tryz.underlying151 rfl (by kernel_rfl) rfl ?_
  exact ⟨rfl, ((Below.refl _ _).alloc (Nat.le_refl _) _).drew⟩
theorem nat2_be2 (n : Nat) (xs ys : List UInt8) (hn : n < 65536) : nat2 ⟨(xs ++ be2 n ++ ys).toArray⟩ xs.length = n := by
  unfold nat2
  simp only [List.append_assoc, List.getD_eq_getElem?_getD]
  rw [List.getElem?_append_right (Nat.le_refl _), List.getElem?_append_right (Nat.le_succ _)]
  rw [Nat.sub_self, show xs.length + 1 - xs.length = 1 by omega]
  simp only [be2, List.cons_append, List.nil_append, List.getElem?_cons_zero, List.getElem?_cons_succ, Option.getD_some, UInt8.toNat_ofNat']
  omega
theorem headN_lt (c ch s : Nat) (b k : Bool) (d : ByteArray) (hc : c < 256) : (Tc.mk c ch b k s d).headN < 65536 := by
  unfold Tc.headN
  simp only [Int.toNat_natCast]
  cases b <;> cases k <;> simp <;> omega
theorem sizeN_lt (c ch s : Nat) (b k : Bool) (d : ByteArray) (hc : ch < 8) (hd : d.size ≤ 200) : (Tc.mk c ch b k s d).sizeN < 65536 := by
  unfold Tc.sizeN
  simp only [Int.toNat_natCast]
  omega
theorem enc_nat2 (x : Tc) (hg : x.good = true) : nat2 ⟨x.enc.toArray⟩ 0 = x.headN ∧ nat2 ⟨x.enc.toArray⟩ 2 = x.sizeN ∧ x.enc.length = x.data.size + 7 ∧ x.headN < 65536 ∧ x.sizeN < 65536 := by
  obtain ⟨c, ch, s, h1, h2, h3, h4, h5, h6, h7⟩ := x.good_nat hg
  have a1 : x.headN < 65536 := by rw [h7]; exact headN_lt c ch s _ _ _ h1
  have a2 : x.sizeN < 65536 := by rw [h7]; exact sizeN_lt c ch s _ _ _ h2 h5
  have e1 : x.enc = [] ++ be2 x.headN ++ (be2 x.sizeN ++ [UInt8.ofNat x.seq.toNat] ++ x.data.data.toList ++ be2 (sum16 x.body).toNat) := by simp [Tc.enc, Tc.body]
  have e2 : x.enc = be2 x.headN ++ be2 x.sizeN ++ ([UInt8.ofNat x.seq.toNat] ++ x.data.data.toList ++ be2 (sum16 x.body).toNat) := by simp [Tc.enc, Tc.body]
  refine ⟨?_, ?_, ?_, a1, a2⟩
  · rw [e1]; exact nat2_be2 x.headN [] _ a1
  · rw [e2]; exact nat2_be2 x.sizeN (be2 x.headN) _ a2
  · rw [e1]; simp [be2]
set_option maxHeartbeats 4000000 in
set_option maxRecDepth 100000 in
theorem of_any (x : Tc) (w : World) (hg : x.good = true) : Calls Tryz.prog 98 #[x.val] w fun e w' => e = .returned (.agg #[.int .u16 (x.headN : Nat), .int .u16 (x.sizeN : Nat)]) ∧ Below w.heap.size w w' := by
  have hp := Put_any x
  unfold Tc.putV at hp
  rw [if_pos hg] at hp
  obtain ⟨e1, e2, e3, _⟩ := enc_nat2 x hg
  have hrd := fun w => read_any ⟨x.enc.toArray⟩ w (by show 4 ≤ x.enc.toArray.size; simp; omega)
  rw [e1, e2] at hrd
  have hsz : (⟨x.enc.toArray⟩ : ByteArray).size = x.data.size + 7 := by show x.enc.toArray.size = _; simp [e3]
  obtain ⟨s, hs⟩ : ∃ s : ByteArray, s = ⟨x.enc.toArray⟩ := ⟨_, rfl⟩
  simp only [strOf] at hp
  rw [← hs] at hp hrd hsz
  have hne := not_empty_of s (by omega)
  obtain ⟨h, hh⟩ : ∃ h, h = x.headN := ⟨_, rfl⟩
  obtain ⟨z, hz⟩ : ∃ h, h = x.sizeN := ⟨_, rfl⟩
  rw [← hh, ← hz] at hrd
  rw [← hh, ← hz]
  clear e1 e2 e3 hs hg hh hz
  obtain ⟨xc, xch, xb, xk, xs, xd⟩ := x
  simp only [Tc.val] at hp ⊢
  have HP := Lib.hid hp; have HR := Lib.hid hrd
  clear hp hrd
  go_enter Tryz.func98, Tryz.ntmps98
  go_wp2_with fail
  refine (HP.out _).mono ?_
  rintro e w1 ⟨rfl, hL1⟩
  have HL1 := Lib.hid ((((Below.refl w.heap.size w).alloc (Nat.le_refl _) (Obj.cells #[.int .i64 xc, .int .i64 xch, .bool xb, .bool xk, .int .i64 xs, .string xd] 37)).alloc (by simp) (Obj.cells #[.int .u16 0, .int .u16 0] 151)).trans (hL1.mono (by simp; omega)))
  have HB1 := Lib.hid ((Blk.new_at (w.alloc (Obj.cells #[.int .i64 xc, .int .i64 xch, .bool xb, .bool xk, .int .i64 xs, .string xd] 37)) [.int .u16 0, .int .u16 0] 151 (w.heap.size + 1) (by simp)).below hL1 (by simp))
  clear hL1
  go_wp2_with fail
  refine (HR.out _).mono ?_
  rintro e w2 ⟨rfl, hL2⟩
  have HL2 := Lib.hid (HL1.out.trans (hL2.mono HL1.out.size))
  have HB2 := Lib.hid (HB1.out.below hL2 HB1.out.lt)
  clear hL2 HL1 HB1
  have b0 := HB2.out.cell 0
  have b1 := HB2.out.cell 1
  simp only [List.getElem?_cons_zero, List.getElem?_cons_succ] at b0 b1
  have f0 := HB2.out.free 0
  have f1 := HB2.out.free 1
  go_wp2_with fail
  refine ret_cell rfl (w.heap.size + 1) 151 [.int .u16 h, .int .u16 z] rfl ((HB2.out.set 0 _).set 1 _) Tryz.underlying151 rfl (by kernel_rfl) rfl ?_
  exact ⟨rfl, ((HL2.out.setCell (Nat.le_succ _) _).setCell (Nat.le_succ _) _)⟩
end
section
open Go.RowKit
theorem and1023 (n : Nat) (h : n < 65536) : bits .and .u16 (n : Int) 1023 = ((n % 1024 : Nat) : Int) := by
  have e : (n : Int) = w16 (BitVec.ofNat 16 n) := by rw [w16_ofNat]; omega
  rw [e, w16_and_lit]
  unfold w16
  rw [BitVec.toNat_and, BitVec.toNat_ofNat]
  rw [show (BitVec.ofInt 16 1023).toNat = 2 ^ 10 - 1 from rfl, Nat.and_two_pow_sub_one_eq_mod]
  omega
theorem and_two_pow (n k : Nat) : n &&& 2 ^ k = (n.testBit k).toNat * 2 ^ k := by
  apply Nat.eq_of_testBit_eq
  intro i
  rw [Nat.testBit_and, Nat.testBit_two_pow]
  by_cases hi : k = i
  · subst hi
    cases hb : n.testBit k <;> simp [Nat.testBit_two_pow]
  · cases hb : n.testBit k <;> simp [Nat.testBit_two_pow, hi]
theorem and_bitg (n k : Nat) (h : n < 65536) (hk : k < 16) : (bits .and .u16 (n : Int) ((2 ^ k : Nat) : Int) != 0) = decide (n / 2 ^ k % 2 = 1) := by
  have e : (n : Int) = w16 (BitVec.ofNat 16 n) := by rw [w16_ofNat]; omega
  have h2 : (2 : Nat) ^ k < 65536 := Nat.lt_of_le_of_lt (Nat.pow_le_pow_right (by omega) (show k ≤ 15 by omega)) (by omega)
  rw [e, w16_and_lit]
  unfold w16
  rw [BitVec.toNat_and, BitVec.toNat_ofNat, BitVec.ofInt_natCast, BitVec.toNat_ofNat, Nat.mod_eq_of_lt (by omega : n < 2 ^ 16), Nat.mod_eq_of_lt (by omega : 2 ^ k < 2 ^ 16), and_two_pow, Nat.testBit_eq_decide_div_mod_eq]
  by_cases hb : n / 2 ^ k % 2 = 1
  · have := Nat.two_pow_pos k
    rw [decide_eq_true hb]
    simp only [Bool.toNat_true, Nat.one_mul, bne_iff_ne, ne_eq]
    omega
  · rw [decide_eq_false hb]; simp
theorem and8192 (n : Nat) (h : n < 65536) : (bits .and .u16 (n : Int) 8192 != 0) = decide (n / 8192 % 2 = 1) := and_bitg n 13 h (by omega)
theorem and4096 (n : Nat) (h : n < 65536) : (bits .and .u16 (n : Int) 4096 != 0) = decide (n / 4096 % 2 = 1) := and_bitg n 12 h (by omega)
/-- The frame that the bytes say. -/
def getTc (b : ByteArray) : Tc := ⟨(nat2 b 0 % 1024 : Nat), (nat2 b 2 / 1024 : Nat), decide (nat2 b 0 / 8192 % 2 = 1), decide (nat2 b 0 / 4096 % 2 = 1), ((b.data.toList.getD 4 0).toNat : Nat), b.extract 5 (b.size - 2)⟩
def sumOk (b : ByteArray) : Bool := decide (nat2 b (b.size - 2) = (sum16 (b.extract 0 (b.size - 2)).data.toList).toNat)
def getBad (e : Int) : Value := .tuple #[Tc.zero.val, .int .i64 e]
/-- What Get answers. -/
def getV (b : ByteArray) : Value :=
  if b.size ≤ 7 ∨ 207 < b.size then getBad 6
  else if sumOk b then (if (getTc b).good && decide ((getTc b).enc = b.data.toList) then .tuple #[(getTc b).val, .int .i64 0] else getBad 6)
  else getBad 120
theorem be2_nat2 (b : ByteArray) (i : Nat) : be2 (nat2 b i) = [b.data.toList.getD i 0, b.data.toList.getD (i + 1) 0] := by
  have h1 := (b.data.toList.getD i 0).toNat_lt
  have h2 := (b.data.toList.getD (i + 1) 0).toNat_lt
  unfold be2 nat2
  congr 1
  · apply UInt8.toNat_inj.1
    rw [UInt8.toNat_ofNat']; omega
  · congr 1
    apply UInt8.toNat_inj.1
    rw [UInt8.toNat_ofNat']; omega
/-- The frame's encoding is the string, if and only if the two fields are right. -/
theorem enc_iff (b : ByteArray) (h1 : 8 ≤ b.size) (h2 : b.size ≤ 207) (hs : sumOk b = true) (hg : (getTc b).good = true) : ((getTc b).enc = b.data.toList) ↔ ((getTc b).headN = nat2 b 0 ∧ (getTc b).sizeN = nat2 b 2) := by
  have hbl : b.data.toList.length = b.size := by rw [← Lib.size_eq]
  obtain ⟨e1, e2, e3, e4, e5⟩ := enc_nat2 _ hg
  constructor
  · intro h
    have hb : (⟨(getTc b).enc.toArray⟩ : ByteArray) = b := by rw [h]
    rw [hb] at e1 e2
    exact ⟨e1.symm, e2.symm⟩
  · rintro ⟨hh, hz⟩
    have hbody : (getTc b).body = (b.extract 0 (b.size - 2)).data.toList := by
      unfold Tc.body
      rw [hh, hz, be2_nat2, be2_nat2]
      have hseq : UInt8.ofNat (getTc b).seq.toNat = b.data.toList.getD 4 0 := by
        show UInt8.ofNat (((b.data.toList.getD 4 0).toNat : Nat) : Int).toNat = _
        rw [Int.toNat_natCast]
        simp
      rw [hseq]
      have hd : (getTc b).data.data.toList = (b.data.toList.drop 5).take (b.size - 2 - 5) := by
        show (b.extract 5 (b.size - 2)).data.toList = _
        simp [ByteArray.data_extract, Array.toList_extract, List.extract_eq_take_drop]
      have hr : (b.extract 0 (b.size - 2)).data.toList = b.data.toList.take (b.size - 2) := by
        simp [ByteArray.data_extract, Array.toList_extract, List.extract_eq_take_drop]
      rw [hd, hr]
      generalize hL : b.data.toList = L at hbl
      match L, hbl with
      | a0 :: a1 :: a2 :: a3 :: a4 :: T, hbl =>
        obtain ⟨q, hq⟩ : ∃ q, b.size - 2 = q + 5 := ⟨b.size - 7, by omega⟩
        rw [hq, Nat.add_sub_cancel]
        simp [List.getD_eq_getElem?_getD]
      | [], h => simp at h; omega
      | [_], h => simp at h; omega
      | [_, _], h => simp at h; omega
      | [_, _, _], h => simp at h; omega
      | [_, _, _, _], h => simp at h; omega
    unfold Tc.enc
    rw [hbody]
    have hsum := of_decide_eq_true hs
    rw [← hsum, be2_nat2]
    have hr : (b.extract 0 (b.size - 2)).data.toList = b.data.toList.take (b.size - 2) := by
      simp [ByteArray.data_extract, Array.toList_extract, List.extract_eq_take_drop]
    rw [hr]
    have h3 := ext_two b (b.size - 2) (by omega)
    rw [← h3]
    rw [show (b.extract (b.size - 2) (b.size - 2 + 2)).data.toList = b.data.toList.drop (b.size - 2) by
      rw [show b.size - 2 + 2 = b.size by omega]
      simp [ByteArray.data_extract, Array.toList_extract, List.extract_eq_take_drop]
      exact List.take_of_length_le (by simp)]
    exact List.take_append_drop _ _
end
end Go.Proofs.YtgopighmifpefaaGreatDoor
