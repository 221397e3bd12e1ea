/- What is proved here: the walks of read and of. -/
import Derived.Test.YtebgehmgjafblaaT7
import Derived.Lib.Strings
import Derived.Deep.RegionHeld3
import Derived.Deep.RegionWith
set_option linter.unusedVariables false
set_option linter.unusedSimpArgs false
namespace Go.Proofs.Ytebgehmgjafblaa
open Go.RowKit
/-- The number that two bytes of a string are. -/
def nat2 (b : ByteArray) (i : Nat) : Nat := (b.data.toList.getD i 0).toNat * 256 + (b.data.toList.getD (i + 1) 0).toNat
theorem nat2_lt (b : ByteArray) (i : Nat) : nat2 b i < 65536 := by
  unfold nat2
  have h1 := (b.data.toList.getD i 0).toNat_lt
  have h2 := (b.data.toList.getD (i + 1) 0).toNat_lt
  omega
theorem ext_two (b : ByteArray) (i : Nat) (h : i + 2 ≤ b.size) : (b.extract i (i + 2)).data.toList = [b.data.toList.getD i 0, b.data.toList.getD (i + 1) 0] := by
  have hl : b.data.toList.length = b.size := by rw [← Lib.size_eq]
  rw [show (b.extract i (i + 2)).data.toList = (b.data.toList.drop i).take 2 by simp [ByteArray.data_extract, Array.toList_extract, List.extract_eq_take_drop]]
  rw [List.drop_eq_getElem_cons (by omega), List.drop_eq_getElem_cons (by omega)]
  simp [List.getD_eq_getElem?_getD, List.getElem?_eq_getElem (show i < b.data.toList.length by omega), List.getElem?_eq_getElem (show i + 1 < b.data.toList.length by omega)]
theorem number_two (b : ByteArray) (i : Nat) (h : i + 2 ≤ b.size) (w : World) : Calls Try.prog 63 #[.string (b.extract i (i + 2))] w fun e w' => e = .returned (.int .u64 (nat2 b i : Nat)) ∧ w = w' := by
  have hn := number_any (b.extract i (i + 2)) w (by simp; omega)
  rw [ext_two b i h, num64_two] at hn
  exact hn
set_option maxHeartbeats 4000000 in
set_option maxRecDepth 100000 in
theorem read_any (b : ByteArray) (w : World) (h4 : 4 ≤ b.size) : Calls Try.prog 64 #[.string b] w fun e w' => e = .returned (.agg #[.int .u16 (nat2 b 0 : Nat), .int .u16 (nat2 b 2 : Nat)]) ∧ Below w.heap.size w w' := by
  have hn1 := number_two b 0 (by omega)
  have hn2 := number_two b 2 (by omega)
  have hw1 : IntKind.u16.wrap (nat2 b 0 : Nat) = (nat2 b 0 : Nat) := IntWalk.u16_in _ (by have := nat2_lt b 0; omega)
  have hw2 : IntKind.u16.wrap (nat2 b 2 : Nat) = (nat2 b 2 : Nat) := IntWalk.u16_in _ (by have := nat2_lt b 2; omega)
  obtain ⟨x, hx⟩ : ∃ x, x = nat2 b 0 := ⟨_, rfl⟩
  obtain ⟨y, hy⟩ : ∃ y, y = nat2 b 2 := ⟨_, rfl⟩
  rw [← hx] at hn1 hw1 ⊢
  rw [← hy] at hn2 hw2 ⊢
  rw [Nat.zero_add] at hn1
  rw [show 2 + 2 = 4 from rfl] at hn2
  have HN1 := Lib.hid hn1; have HN2 := Lib.hid hn2
  clear hn1 hn2 hx hy
  have h2i : ((2 : Int) ≤ b.size) := by omega
  have h4i : ((4 : Int) ≤ b.size) := by omega
  go_enter Try.func64, Try.ntmps64
  go_wp2_with fail
  go_region_with (first | (go_at_call_of 63 (Value.string (b.extract 0 2)); refine (HN1.out _).mono ?_; rintro e w' ⟨rfl, rfl⟩) | (go_at_call_of 63 (Value.string (b.extract 2 4)); refine (HN2.out _).mono ?_; rintro e w' ⟨rfl, rfl⟩))
  go_wp2_with fail
  refine ret_cell rfl w.heap.size 120 [.int .u16 x, .int .u16 y] rfl ((Blk.new w _ _).drew) Try.underlying120 rfl (by kernel_rfl) rfl ?_
  exact ⟨rfl, ((Below.refl _ _).alloc (Nat.le_refl _) _).drew⟩
theorem nat2_be2 (n : Nat) (xs ys : List UInt8) (hn : n < 65536) : nat2 ⟨(xs ++ be2 n ++ ys).toArray⟩ xs.length = n := by
  unfold nat2
  simp only [List.append_assoc, List.getD_eq_getElem?_getD]
  rw [List.getElem?_append_right (Nat.le_refl _), List.getElem?_append_right (Nat.le_succ _)]
  rw [Nat.sub_self, show xs.length + 1 - xs.length = 1 by omega]
  simp only [be2, List.cons_append, List.nil_append, List.getElem?_cons_zero, List.getElem?_cons_succ, Option.getD_some, UInt8.toNat_ofNat']
  omega
theorem headN_lt (c ch s : Nat) (b k : Bool) (d : ByteArray) (hc : c < 256) : (Tc.mk c ch b k s d).headN < 65536 := by
  unfold Tc.headN
  simp only [Int.toNat_natCast]
  cases b <;> cases k <;> simp <;> omega
theorem sizeN_lt (c ch s : Nat) (b k : Bool) (d : ByteArray) (hc : ch < 8) (hd : d.size ≤ 200) : (Tc.mk c ch b k s d).sizeN < 65536 := by
  unfold Tc.sizeN
  simp only [Int.toNat_natCast]
  omega
theorem enc_nat2 (x : Tc) (hg : x.good = true) : nat2 ⟨x.enc.toArray⟩ 0 = x.headN ∧ nat2 ⟨x.enc.toArray⟩ 2 = x.sizeN ∧ x.enc.length = x.data.size + 7 ∧ x.headN < 65536 ∧ x.sizeN < 65536 := by
  obtain ⟨c, ch, s, h1, h2, h3, h4, h5, h6, h7⟩ := x.good_nat hg
  have a1 : x.headN < 65536 := by rw [h7]; exact headN_lt c ch s _ _ _ h1
  have a2 : x.sizeN < 65536 := by rw [h7]; exact sizeN_lt c ch s _ _ _ h2 h5
  have e1 : x.enc = [] ++ be2 x.headN ++ (be2 x.sizeN ++ [UInt8.ofNat x.seq.toNat] ++ x.data.data.toList ++ be2 (sum16 x.body).toNat) := by simp [Tc.enc, Tc.body]
  have e2 : x.enc = be2 x.headN ++ be2 x.sizeN ++ ([UInt8.ofNat x.seq.toNat] ++ x.data.data.toList ++ be2 (sum16 x.body).toNat) := by simp [Tc.enc, Tc.body]
  refine ⟨?_, ?_, ?_, a1, a2⟩
  · rw [e1]; exact nat2_be2 x.headN [] _ a1
  · rw [e2]; exact nat2_be2 x.sizeN (be2 x.headN) _ a2
  · rw [e1]; simp [be2]
set_option maxHeartbeats 4000000 in
set_option maxRecDepth 100000 in
theorem of_any (x : Tc) (w : World) (hg : x.good = true) : Calls Try.prog 66 #[x.val] w fun e w' => e = .returned (.agg #[.int .u16 (x.headN : Nat), .int .u16 (x.sizeN : Nat)]) ∧ Below w.heap.size w w' := by
  have hp := Put_any x
  unfold Tc.putV at hp
  rw [if_pos hg] at hp
  obtain ⟨e1, e2, e3, _⟩ := enc_nat2 x hg
  have hrd := fun w => read_any ⟨x.enc.toArray⟩ w (by show 4 ≤ x.enc.toArray.size; simp; omega)
  rw [e1, e2] at hrd
  have hsz : (⟨x.enc.toArray⟩ : ByteArray).size = x.data.size + 7 := by show x.enc.toArray.size = _; simp [e3]
  obtain ⟨s, hs⟩ : ∃ s : ByteArray, s = ⟨x.enc.toArray⟩ := ⟨_, rfl⟩
  simp only [strOf] at hp
  rw [← hs] at hp hrd hsz
  have hne := not_empty_of s (by omega)
  obtain ⟨h, hh⟩ : ∃ h, h = x.headN := ⟨_, rfl⟩
  obtain ⟨z, hz⟩ : ∃ h, h = x.sizeN := ⟨_, rfl⟩
  rw [← hh, ← hz] at hrd
  rw [← hh, ← hz]
  clear e1 e2 e3 hs hg hh hz
  obtain ⟨xc, xch, xb, xk, xs, xd⟩ := x
  simp only [Tc.val] at hp ⊢
  have HP := Lib.hid hp; have HR := Lib.hid hrd
  clear hp hrd
  go_enter Try.func66, Try.ntmps66
  go_wp2_with fail
  refine (HP.out _).mono ?_
  rintro e w1 ⟨rfl, hL1⟩
  have HL1 := Lib.hid ((((Below.refl w.heap.size w).alloc (Nat.le_refl _) (Obj.cells #[.int .i64 xc, .int .i64 xch, .bool xb, .bool xk, .int .i64 xs, .string xd] 30)).alloc (by simp) (Obj.cells #[.int .u16 0, .int .u16 0] 120)).trans (hL1.mono (by simp; omega)))
  have HB1 := Lib.hid ((Blk.new_at (w.alloc (Obj.cells #[.int .i64 xc, .int .i64 xch, .bool xb, .bool xk, .int .i64 xs, .string xd] 30)) [.int .u16 0, .int .u16 0] 120 (w.heap.size + 1) (by simp)).below hL1 (by simp))
  clear hL1
  go_wp2_with fail
  refine (HR.out _).mono ?_
  rintro e w2 ⟨rfl, hL2⟩
  have HL2 := Lib.hid (HL1.out.trans (hL2.mono HL1.out.size))
  have HB2 := Lib.hid (HB1.out.below hL2 HB1.out.lt)
  clear hL2 HL1 HB1
  have b0 := HB2.out.cell 0
  have b1 := HB2.out.cell 1
  simp only [List.getElem?_cons_zero, List.getElem?_cons_succ] at b0 b1
  have f0 := HB2.out.free 0
  have f1 := HB2.out.free 1
  go_wp2_with fail
  refine ret_cell rfl (w.heap.size + 1) 120 [.int .u16 h, .int .u16 z] rfl ((HB2.out.set 0 _).set 1 _) Try.underlying120 rfl (by kernel_rfl) rfl ?_
  exact ⟨rfl, ((HL2.out.setCell (Nat.le_succ _) _).setCell (Nat.le_succ _) _)⟩
end Go.Proofs.Ytebgehmgjafblaa
