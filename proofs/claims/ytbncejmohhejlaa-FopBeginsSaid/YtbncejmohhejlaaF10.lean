/- What is proved here: ReadWord, and the reference's. -/
import Derived.Test.YtbncejmohhejlaaF9
import Derived.Test.YtbncejmohhejlaaRet
set_option linter.unusedVariables false
set_option linter.unusedSimpArgs false
namespace Go.Proofs.Ytbncejmohhejlaa
open Go.RowKit
def rdW (n : Nat) : Wd := ⟨(n / 65536 % 8 : Nat), n.testBit 15, n.testBit 14, n.testBit 13, (n / 256 % 4 : Nat), (n % 256 : Nat)⟩
def rdN (n : Nat) : Nat := wordN (n / 65536 % 8) (n / 256 % 4) (n % 256) (n.testBit 15) (n.testBit 14) (n.testBit 13)
def readV (n : Nat) : Value := if rdN n = n then .tuple #[(rdW n).val, .int .i64 0] else .tuple #[Wd.zero.val, .int .i64 6]
theorem and_u32 (a b : Nat) (ha : a < 4294967296) (hb : b < 4294967296) : bits .and .u32 (a : Int) (b : Int) = ((a &&& b : Nat) : Int) := by
  have e1 : ((a : Nat) : Int) = w32 (BitVec.ofNat 32 a) := by rw [w32_ofNat]; omega
  have e2 : ((b : Nat) : Int) = w32 (BitVec.ofNat 32 b) := by rw [w32_ofNat]; omega
  rw [e1, e2, w32_and]
  have : BitVec.ofNat 32 a &&& BitVec.ofNat 32 b = BitVec.ofNat 32 (a &&& b) := by
    apply BitVec.eq_of_toNat_eq
    simp only [BitVec.toNat_and, BitVec.toNat_ofNat]
    rw [Nat.mod_eq_of_lt (show a < 2 ^ 32 by omega), Nat.mod_eq_of_lt (show b < 2 ^ 32 by omega), Nat.mod_eq_of_lt (Nat.and_lt_two_pow a (show b < 2 ^ 32 by omega))]
  rw [this, w32_ofNat, Nat.mod_eq_of_lt]
  exact Nat.and_lt_two_pow (n := 32) a (by omega)
theorem and_mask (a k : Nat) (ha : a < 4294967296) (hk : k ≤ 31) : bits .and .u32 (a : Int) ((2 ^ k - 1 : Nat) : Int) = ((a % 2 ^ k : Nat) : Int) := by
  have : 2 ^ k ≤ 2 ^ 31 := Nat.pow_le_pow_right (by omega) hk
  rw [and_u32 a _ ha (by omega), Nat.and_two_pow_sub_one_eq_mod]
theorem and_bit (a k : Nat) (ha : a < 4294967296) (hk : k ≤ 31) : (bits .and .u32 (a : Int) ((2 ^ k : Nat) : Int) != 0) = a.testBit k := by
  have : 2 ^ k ≤ 2 ^ 31 := Nat.pow_le_pow_right (by omega) hk
  rw [and_u32 a _ ha (by omega)]
  have h2 : a &&& 2 ^ k = 2 ^ k * (a.testBit k).toNat := by
    apply Nat.eq_of_testBit_eq
    intro i
    rw [Nat.testBit_and, Nat.testBit_two_pow]
    cases h : a.testBit k
    · by_cases e : k = i
      · subst e; simp [h]
      · simp [e]
    · by_cases e : k = i
      · subst e; simp [h, Nat.testBit_two_pow_self]
      · simp [e, Nat.testBit_two_pow]
  rw [h2]
  cases h : a.testBit k
  · simp
  · have := Nat.two_pow_pos k
    have h3 : ((2 ^ k : Nat) : Int) ≠ 0 := by omega
    rw [show (true : Bool).toNat = 1 from rfl, Nat.mul_one]
    exact bne_iff_ne.2 h3
theorem bit_div (n k : Nat) : n.testBit k = (n / 2 ^ k % 2 == 1) := by
  rw [Nat.testBit_eq_decide_div_mod_eq]
  rw [Bool.eq_iff_iff]; simp
set_option maxHeartbeats 4000000 in
set_option maxRecDepth 100000 in
theorem ReadWord_any (n : Nat) (w : World) (hn : n < 4294967296) : Calls Try.prog 14 #[.int .u32 n] w fun e w' => e = .returned (readV n) ∧ Below w.heap.size w w' := by
  obtain ⟨c1, hc1⟩ : ∃ c1, c1 = n / 65536 % 8 := ⟨_, rfl⟩
  obtain ⟨b1, hb1⟩ : ∃ b1, b1 = n / 256 % 4 := ⟨_, rfl⟩
  obtain ⟨n1, hn1⟩ : ∃ n1, n1 = n % 256 := ⟨_, rfl⟩
  obtain ⟨l1, hl1⟩ : ∃ l1, l1 = n.testBit 15 := ⟨_, rfl⟩
  obtain ⟨w1, hw1⟩ : ∃ w1, w1 = n.testBit 14 := ⟨_, rfl⟩
  obtain ⟨r1, hr1⟩ : ∃ r1, r1 = n.testBit 13 := ⟨_, rfl⟩
  have hc7 : c1 ≤ 7 := by omega
  have hb3 : b1 ≤ 3 := by omega
  have hn255 : n1 ≤ 255 := by omega
  obtain ⟨N, hN⟩ : ∃ N, N = wordN c1 b1 n1 l1 w1 r1 := ⟨_, rfl⟩
  have hv : readV n = if N = n then .tuple #[.agg #[.int .i64 c1, .bool l1, .bool w1, .bool r1, .int .i64 b1, .int .i64 n1], .int .i64 0] else .tuple #[Wd.zero.val, .int .i64 6] := by
    rw [hN, hc1, hb1, hn1, hl1, hw1, hr1]; rfl
  have e1 : wrap64 (bits .and .u32 ((n : Int) / 65536) 7) = (c1 : Int) := by
    have := and_mask (n / 65536) 3 (by omega) (by omega)
    simp only [Nat.reducePow, Nat.reduceSub] at this
    rw [show ((n / 65536 : Nat) : Int) = (n : Int) / 65536 by omega, show ((7 : Nat) : Int) = 7 from rfl, ← hc1] at this
    rw [this]; unfold wrap64; omega
  have e2 : (bits .and .u32 (n : Int) 32768 != 0) = l1 := by rw [hl1]; exact and_bit n 15 hn (by omega)
  have e3 : (bits .and .u32 (n : Int) 16384 != 0) = w1 := by rw [hw1]; exact and_bit n 14 hn (by omega)
  have e4 : (bits .and .u32 (n : Int) 8192 != 0) = r1 := by rw [hr1]; exact and_bit n 13 hn (by omega)
  have e5 : wrap64 (bits .and .u32 ((n : Int) / 256) 3) = (b1 : Int) := by
    have := and_mask (n / 256) 2 (by omega) (by omega)
    simp only [Nat.reducePow, Nat.reduceSub] at this
    rw [show ((n / 256 : Nat) : Int) = (n : Int) / 256 by omega, show ((3 : Nat) : Int) = 3 from rfl, ← hb1] at this
    rw [this]; unfold wrap64; omega
  have e6 : wrap64 (bits .and .u32 (n : Int) 255) = (n1 : Int) := by
    have := and_mask n 8 hn (by omega)
    simp only [Nat.reducePow, Nat.reduceSub] at this
    rw [show ((255 : Nat) : Int) = 255 from rfl, ← hn1] at this
    rw [this]; unfold wrap64; omega
  have hp := fun w => PutWord_ok c1 b1 n1 l1 w1 r1 w hc7 hb3 hn255
  simp only [Wd.val] at hp
  rw [← hN] at hp
  have HP := Lib.hid hp; have HV := Lib.hid hv
  have HE := Lib.hid (And.intro e1 (And.intro e2 (And.intro e3 (And.intro e4 (And.intro e5 e6)))))
  clear hp hv e1 e2 e3 e4 e5 e6 hN hc1 hb1 hn1 hl1 hw1 hr1
  rw [HV.out]
  have HL1 := Lib.hid (((Below.refl w.heap.size w).alloc (Nat.le_refl _) (Obj.cells Wd.zero.cells.toArray 35)).alloc (by simp) (Obj.cells #[.int .i64 c1, .bool l1, .bool w1, .bool r1, .int .i64 b1, .int .i64 n1] 35))
  have HZ := Lib.hid ((Blk.new w Wd.zero.cells 35).alloc (Obj.cells #[.int .i64 c1, .bool l1, .bool w1, .bool r1, .int .i64 b1, .int .i64 n1] 35))
  have HB := Lib.hid (Blk.new_at (w.alloc (Obj.cells Wd.zero.cells.toArray 35)) [.int .i64 c1, .bool l1, .bool w1, .bool r1, .int .i64 b1, .int .i64 n1] 35 (w.heap.size + 1) (by simp))
  by_cases hNn : N = n
  · rw [if_pos hNn]
    have hb0 : ((N : Int) != (n : Int)) = false := by rw [hNn]; simp
    clear hNn
    go_enter Try.func14, Try.ntmps14
    go_wp2_with fail
    rw [HE.out.1, HE.out.2.1, HE.out.2.2.1, HE.out.2.2.2.1, HE.out.2.2.2.2.1, HE.out.2.2.2.2.2]
    refine (HP.out _).mono ?_
    rintro e v1 ⟨rfl, hL1⟩
    have HL2 := Lib.hid (HL1.out.trans (hL1.mono HL1.out.size))
    have HZ1 := Lib.hid (HZ.out.below hL1 (by simp; omega))
    have HB1 := Lib.hid (HB.out.below hL1 (by simp)); clear hL1
    have z0 := HZ1.out.cell 0
    have z1 := HZ1.out.cell 1
    have z2 := HZ1.out.cell 2
    have z3 := HZ1.out.cell 3
    have z4 := HZ1.out.cell 4
    have z5 := HZ1.out.cell 5
    simp only [Wd.cells, Wd.zero, List.getElem?_cons_zero, List.getElem?_cons_succ] at z0 z1 z2 z3 z4 z5
    have f0 := HZ1.out.free 0
    have f1 := HZ1.out.free 1
    have f2 := HZ1.out.free 2
    have f3 := HZ1.out.free 3
    have f4 := HZ1.out.free 4
    have f5 := HZ1.out.free 5
    have q0 := HB1.out.cell 0
    have q1 := HB1.out.cell 1
    have q2 := HB1.out.cell 2
    have q3 := HB1.out.cell 3
    have q4 := HB1.out.cell 4
    have q5 := HB1.out.cell 5
    simp only [List.getElem?_cons_zero, List.getElem?_cons_succ] at q0 q1 q2 q3 q4 q5
    go_wp2_with fail
    refine ret_cell_tmp rfl w.heap.size 35 [.int .i64 c1, .bool l1, .bool w1, .bool r1, .int .i64 b1, .int .i64 n1] rfl ((((((HZ1.out.set 0 _).set 1 _).set 2 _).set 3 _).set 4 _).set 5 _) Try.underlying35 rfl (by kernel_rfl) rfl ?_
    exact ⟨rfl, ((((((HL2.out.setCell (Nat.le_refl _) _).setCell (Nat.le_refl _) _).setCell (Nat.le_refl _) _).setCell (Nat.le_refl _) _).setCell (Nat.le_refl _) _).setCell (Nat.le_refl _) _)⟩
  · rw [if_neg hNn]
    have hb0 : ((N : Int) != (n : Int)) = true := by
      simp only [bne_iff_ne, ne_eq]; omega
    clear hNn
    go_enter Try.func14, Try.ntmps14
    go_wp2_with fail
    rw [HE.out.1, HE.out.2.1, HE.out.2.2.1, HE.out.2.2.2.1, HE.out.2.2.2.2.1, HE.out.2.2.2.2.2]
    refine (HP.out _).mono ?_
    rintro e v1 ⟨rfl, hL1⟩
    have HL2 := Lib.hid (HL1.out.trans (hL1.mono HL1.out.size))
    have HZ1 := Lib.hid (HZ.out.below hL1 (by simp; omega))
    have HB1 := Lib.hid (HB.out.below hL1 (by simp)); clear hL1
    have z0 := HZ1.out.cell 0
    have z1 := HZ1.out.cell 1
    have z2 := HZ1.out.cell 2
    have z3 := HZ1.out.cell 3
    have z4 := HZ1.out.cell 4
    have z5 := HZ1.out.cell 5
    simp only [Wd.cells, Wd.zero, List.getElem?_cons_zero, List.getElem?_cons_succ] at z0 z1 z2 z3 z4 z5
    have f0 := HZ1.out.free 0
    have f1 := HZ1.out.free 1
    have f2 := HZ1.out.free 2
    have f3 := HZ1.out.free 3
    have f4 := HZ1.out.free 4
    have f5 := HZ1.out.free 5
    have q0 := HB1.out.cell 0
    have q1 := HB1.out.cell 1
    have q2 := HB1.out.cell 2
    have q3 := HB1.out.cell 3
    have q4 := HB1.out.cell 4
    have q5 := HB1.out.cell 5
    simp only [List.getElem?_cons_zero, List.getElem?_cons_succ] at q0 q1 q2 q3 q4 q5
    go_wp2_with fail
    refine ret_cell_tmp rfl w.heap.size 35 Wd.zero.cells rfl ((((((HZ1.out.set 0 _).set 1 _).set 2 _).set 3 _).set 4 _).set 5 _) Try.underlying35 rfl (by kernel_rfl) rfl ?_
    exact ⟨rfl, ((((((HL2.out.setCell (Nat.le_refl _) _).setCell (Nat.le_refl _) _).setCell (Nat.le_refl _) _).setCell (Nat.le_refl _) _).setCell (Nat.le_refl _) _).setCell (Nat.le_refl _) _)⟩
end Go.Proofs.Ytbncejmohhejlaa
