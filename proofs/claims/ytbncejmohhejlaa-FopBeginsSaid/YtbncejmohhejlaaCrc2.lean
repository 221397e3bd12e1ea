/- What is proved here: plain laws of the two checksums over bytes: byte by byte with a table, joining, sums behind a string. No condition. -/
import Derived.Test.YtbncejmohhejlaaCrc
set_option linter.unusedVariables false
set_option linter.unusedSimpArgs false
namespace Go.Proofs.Ytbncejmohhejlaa
def bitsH (c : UInt8) : List Bool := (List.range 8).map fun k => c.toNat.testBit (7 - k)
def bitsL (c : UInt8) : List Bool := (List.range 8).map fun k => c.toNat.testBit k
theorem bitsH_length (c : UInt8) : (bitsH c).length = 8 := by simp [bitsH]
theorem bitsL_length (c : UInt8) : (bitsL c).length = 8 := by simp [bitsL]
def allH (l : List UInt8) : List Bool := l.flatMap bitsH
def allL (l : List UInt8) : List Bool := l.flatMap bitsL
theorem allH_length : ∀ l : List UInt8, (allH l).length = 8 * l.length
  | [] => rfl
  | c :: r => by rw [allH, List.flatMap_cons, List.length_append, bitsH_length]; have := allH_length r; rw [allH] at this; rw [this]; simp; omega
theorem allL_length : ∀ l : List UInt8, (allL l).length = 8 * l.length
  | [] => rfl
  | c :: r => by rw [allL, List.flatMap_cons, List.length_append, bitsL_length]; have := allL_length r; rw [allL] at this; rw [this]; simp; omega
theorem allH_append (a b : List UInt8) : allH (a ++ b) = allH a ++ allH b := by simp [allH]
theorem allL_append (a b : List UInt8) : allL (a ++ b) = allL a ++ allL b := by simp [allL]
def next16 (r : BitVec 16) (l : List UInt8) : BitVec 16 := run sh16 (e16 0) r (allH l)
def feed32 (r : BitVec 32) (l : List UInt8) : BitVec 32 := run sh32 (e32 0) r (allL l)
def next32 (s : BitVec 32) (l : List UInt8) : BitVec 32 := ~~~ feed32 (~~~ s) l
def sum16 (l : List UInt8) : BitVec 16 := next16 0xffff#16 l
def sum32 (l : List UInt8) : BitVec 32 := next32 0#32 l
def tab16 (i : Nat) : BitVec 16 := iter sh16 8 (BitVec.ofNat 16 i <<< 8)
def tab32 (i : Nat) : BitVec 32 := iter sh32 8 (BitVec.ofNat 32 i)
def loB {n : Nat} (x : BitVec n) : UInt8 := UInt8.ofNat (x.toNat % 256)
def zb16 : BitVec 16 → BitVec 16 := iter sh16 8
def zb32 : BitVec 32 → BitVec 32 := iter sh32 8
theorem zb16_lin : Lin zb16 := lin16.iter 8
theorem zb32_lin : Lin zb32 := lin32.iter 8

theorem embH (c : UInt8) : emb e16 0 (bitsH c) = BitVec.ofNat 16 c.toNat <<< 8 := by
  have h : ∀ m, m < 256 → emb e16 0 ((List.range 8).map fun k => m.testBit (7 - k)) = BitVec.ofNat 16 m <<< 8 := by decide +kernel
  exact h c.toNat c.toNat_lt
theorem embL (c : UInt8) : emb e32 0 (bitsL c) = BitVec.ofNat 32 c.toNat := by
  have h : ∀ m, m < 256 → emb e32 0 ((List.range 8).map fun k => m.testBit k) = BitVec.ofNat 32 m := by decide +kernel
  exact h c.toNat c.toNat_lt
theorem low16 : ∀ m, m < 256 → iter sh16 8 (BitVec.ofNat 16 m) = BitVec.ofNat 16 m <<< 8 := by decide +kernel
theorem split_lo {n : Nat} (x : BitVec n) : x = (x >>> 8) <<< 8 ^^^ BitVec.ofNat n (x.toNat % 256) := by
  apply BitVec.eq_of_getLsbD_eq; intro i hi
  rw [BitVec.getLsbD_xor, BitVec.getLsbD_shiftLeft, BitVec.getLsbD_ushiftRight, BitVec.getLsbD_ofNat, show 256 = 2 ^ 8 from rfl, Nat.testBit_mod_two_pow]
  by_cases h : i < 8
  · simp [h, hi, BitVec.getLsbD]
  · simp [h, hi, show 8 + (i - 8) = i by omega]
theorem shl8_lo (x : BitVec 16) : BitVec.ofNat 16 (x.toNat % 256) <<< 8 = x <<< 8 := by
  apply BitVec.eq_of_getLsbD_eq; intro i hi
  rw [BitVec.getLsbD_shiftLeft, BitVec.getLsbD_shiftLeft, BitVec.getLsbD_ofNat, show 256 = 2 ^ 8 from rfl, Nat.testBit_mod_two_pow]
  by_cases h : i < 8
  · simp [h]
  · simp [h, hi, show i - 8 < 8 by omega, show i - 8 < 16 by omega, BitVec.getLsbD]
theorem iter8_16 (x : BitVec 16) : iter sh16 8 x = x <<< 8 ^^^ iter sh16 8 ((x >>> 8) <<< 8) := by
  conv => lhs; rw [split_lo x]
  rw [(lin16.iter 8).xor, low16 _ (Nat.mod_lt _ (by omega)), shl8_lo, BitVec.xor_comm]
theorem ofNat_xor8 {n : Nat} (a b : UInt8) : BitVec.ofNat n (a ^^^ b).toNat = BitVec.ofNat n a.toNat ^^^ BitVec.ofNat n b.toNat := by
  rw [UInt8.toNat_xor]
  apply BitVec.eq_of_getLsbD_eq; intro i hi
  simp [BitVec.getLsbD_ofNat, Nat.testBit_xor, hi]
theorem loB_toNat {n : Nat} (x : BitVec n) : (loB x).toNat = x.toNat % 256 := by simp [loB]
theorem byte16 (r : BitVec 16) (c : UInt8) : run sh16 (e16 0) r (bitsH c) = r <<< 8 ^^^ tab16 (loB (r >>> 8) ^^^ c).toNat := by
  rw [run_emb lin16 16 he16 _ r (by rw [bitsH_length]; omega), bitsH_length, embH, iter8_16, tab16]
  congr 1
  · rw [BitVec.shiftLeft_xor_distrib, ← BitVec.shiftLeft_add, show (BitVec.ofNat 16 c.toNat) <<< (8 + 8) = 0#16 by
      apply BitVec.eq_of_getLsbD_eq; intro i hi; rw [BitVec.getLsbD_shiftLeft]; simp [hi]]
    rw [BitVec.xor_zero]
  · congr 1
    rw [ofNat_xor8, loB_toNat, BitVec.ushiftRight_xor_distrib, BitVec.shiftLeft_xor_distrib, BitVec.shiftLeft_xor_distrib]
    congr 1
    · congr 1
      apply BitVec.eq_of_toNat_eq
      have := (r >>> 8).isLt
      have h8 : (r >>> 8).toNat < 256 := by rw [BitVec.toNat_ushiftRight, Nat.shiftRight_eq_div_pow]; have := r.isLt; omega
      rw [BitVec.toNat_ofNat, Nat.mod_eq_of_lt h8, Nat.mod_eq_of_lt (by omega)]
    · apply BitVec.eq_of_getLsbD_eq; intro i hi
      rw [BitVec.getLsbD_shiftLeft, BitVec.getLsbD_ushiftRight, BitVec.getLsbD_shiftLeft, BitVec.getLsbD_shiftLeft]
      by_cases h : i < 8
      · simp [h]
      · simp [h, hi, show 8 + (i - 8) = i by omega]
theorem iterk_32 : ∀ (k : Nat) (x : BitVec 32), (∀ i, i < k → x.getLsbD i = false) → iter sh32 k x = x >>> k
  | 0, x, _ => by simp [iter]
  | k + 1, x, h => by
    have h0 : sh32 x = x >>> 1 := by rw [sh32_eq, h 0 (by omega)]; simp
    rw [iter, h0, iterk_32 k (x >>> 1) (fun i hi => by rw [BitVec.getLsbD_ushiftRight]; exact h (1 + i) (by omega)), ← BitVec.shiftRight_add, Nat.add_comm]
theorem iter8_32 (x : BitVec 32) : iter sh32 8 x = x >>> 8 ^^^ iter sh32 8 (BitVec.ofNat 32 (x.toNat % 256)) := by
  conv => lhs; rw [split_lo x]
  rw [(lin32.iter 8).xor, iterk_32 8 ((x >>> 8) <<< 8) (fun i hi => by rw [BitVec.getLsbD_shiftLeft]; simp [hi])]
  congr 1
  apply BitVec.eq_of_getLsbD_eq; intro i hi
  rw [BitVec.getLsbD_ushiftRight, BitVec.getLsbD_shiftLeft, BitVec.getLsbD_ushiftRight, BitVec.getLsbD_ushiftRight]
  rw [show 8 + (8 + i - 8) = 8 + i by omega]
  by_cases h : 8 + i < 32
  · simp [h]
  · have e : x.getLsbD (8 + i) = false := BitVec.getLsbD_of_ge _ _ (by omega)
    simp [e]
theorem byte32 (r : BitVec 32) (c : UInt8) : run sh32 (e32 0) r (bitsL c) = r >>> 8 ^^^ tab32 (loB r ^^^ c).toNat := by
  rw [run_emb lin32 32 he32 _ r (by rw [bitsL_length]; omega), bitsL_length, embL, iter8_32, tab32]
  have hc : (BitVec.ofNat 32 c.toNat) >>> 8 = 0#32 := by
    apply BitVec.eq_of_toNat_eq
    have := c.toNat_lt
    rw [BitVec.toNat_ushiftRight, BitVec.toNat_ofNat, Nat.shiftRight_eq_div_pow, Nat.mod_eq_of_lt (by omega)]
    simp; omega
  congr 1
  · rw [BitVec.ushiftRight_xor_distrib, hc, BitVec.xor_zero]
  · congr 1
    rw [ofNat_xor8, loB_toNat]
    have : (r ^^^ BitVec.ofNat 32 c.toNat).toNat % 256 = (r.toNat % 256) ^^^ c.toNat := by
      have hl := c.toNat_lt
      rw [BitVec.toNat_xor, BitVec.toNat_ofNat, Nat.mod_eq_of_lt (show c.toNat < 2 ^ 32 by omega), show 256 = 2 ^ 8 from rfl, Nat.xor_mod_two_pow]
      congr 1; exact Nat.mod_eq_of_lt (show c.toNat < 2 ^ 8 by omega)
    rw [this]
    apply BitVec.eq_of_getLsbD_eq; intro i hi
    simp [BitVec.getLsbD_ofNat, Nat.testBit_xor, hi]
theorem next16_nil (r : BitVec 16) : next16 r [] = r := rfl
theorem next16_cons (r : BitVec 16) (c : UInt8) (l : List UInt8) : next16 r (c :: l) = next16 (r <<< 8 ^^^ tab16 (loB (r >>> 8) ^^^ c).toNat) l := by
  rw [next16, allH, List.flatMap_cons, run_append, byte16]; rfl
theorem next16_append (r : BitVec 16) (a b : List UInt8) : next16 r (a ++ b) = next16 (next16 r a) b := by
  rw [next16, allH_append, run_append]; rfl
theorem next16_snoc (r : BitVec 16) (l : List UInt8) (c : UInt8) : next16 r (l ++ [c]) = (next16 r l) <<< 8 ^^^ tab16 (loB ((next16 r l) >>> 8) ^^^ c).toNat := by
  rw [next16_append, next16_cons, next16_nil]
theorem feed32_append (r : BitVec 32) (a b : List UInt8) : feed32 r (a ++ b) = feed32 (feed32 r a) b := by
  rw [feed32, allL_append, run_append]; rfl
theorem feed32_snoc (r : BitVec 32) (l : List UInt8) (c : UInt8) : feed32 r (l ++ [c]) = (feed32 r l) >>> 8 ^^^ tab32 (loB (feed32 r l) ^^^ c).toNat := by
  rw [feed32_append]
  show run sh32 (e32 0) _ (bitsL c ++ []) = _
  rw [List.append_nil, byte32]
theorem next32_append (s : BitVec 32) (a b : List UInt8) : next32 s (a ++ b) = next32 (next32 s a) b := by
  rw [next32, next32, next32, feed32_append, BitVec.not_not]
theorem next16_split (l : List UInt8) (r s : BitVec 16) : next16 r l ^^^ next16 s l = iter zb16 l.length (r ^^^ s) := by
  rw [next16, next16, run_split lin16, allH_length, iter_mul]; rfl
theorem feed32_split (l : List UInt8) (r s : BitVec 32) : feed32 r l ^^^ feed32 s l = iter zb32 l.length (r ^^^ s) := by
  rw [feed32, feed32, run_split lin32, allL_length, iter_mul]; rfl
/-- Joining. -/
theorem sum16_join (x y : List UInt8) : sum16 (x ++ y) = sum16 y ^^^ iter zb16 y.length (~~~ sum16 x) := by
  have h := next16_split y (sum16 x) 0xffff#16
  rw [sum16, next16_append]
  have h2 : ~~~ sum16 x = sum16 x ^^^ 0xffff#16 := by
    rw [BitVec.xor_comm]; exact (BitVec.allOnes_xor (x := sum16 x)).symm
  rw [h2, ← h]
  show next16 (sum16 x) y = next16 0xffff#16 y ^^^ (next16 (sum16 x) y ^^^ next16 0xffff#16 y)
  rw [BitVec.xor_comm (next16 (sum16 x) y), ← BitVec.xor_assoc, BitVec.xor_self, BitVec.zero_xor]
theorem sum32_join (x y : List UInt8) : sum32 (x ++ y) = sum32 y ^^^ iter zb32 y.length (sum32 x) := by
  have h := feed32_split y (~~~ sum32 x) (~~~ 0#32)
  have h2 : ~~~ sum32 x ^^^ ~~~ 0#32 = sum32 x := by
    apply BitVec.eq_of_getLsbD_eq; intro i hi
    simp only [BitVec.getLsbD_xor, BitVec.getLsbD_not, hi, decide_true, Bool.true_and, BitVec.getLsbD_zero]
    cases (sum32 x).getLsbD i <;> rfl
  rw [h2] at h
  have hy : sum32 y = ~~~ feed32 (~~~ 0#32) y := rfl
  have hxy : sum32 (x ++ y) = ~~~ feed32 (~~~ sum32 x) y := by rw [sum32, next32_append]; rfl
  rw [hxy, hy, ← h]
  apply BitVec.eq_of_getLsbD_eq; intro i hi
  simp only [BitVec.getLsbD_not, BitVec.getLsbD_xor, hi, decide_true, Bool.true_and]
  generalize (feed32 (~~~ sum32 x) y).getLsbD i = p
  generalize (feed32 (~~~ 0#32) y).getLsbD i = q
  cases p <;> cases q <;> rfl

/-! ### Steps as matrices -/
section
variable {n : Nat}
def matOf (f : BitVec n → BitVec n) : List (BitVec n) := (List.range n).map fun i => f (1#n <<< i)
def mulK (m : List (BitVec n)) (r : BitVec n) : Nat → BitVec n
  | 0 => 0#n
  | k + 1 => mulK m r k ^^^ (if r.getLsbD k then m.getD k 0#n else 0#n)
def lowB (r : BitVec n) (k : Nat) : BitVec n := BitVec.ofNat n (r.toNat % 2 ^ k)
theorem lowB_succ (r : BitVec n) (k : Nat) (h : k < n) : lowB r (k + 1) = lowB r k ^^^ (if r.getLsbD k then 1#n <<< k else 0#n) := by
  apply BitVec.eq_of_getLsbD_eq; intro i hi
  rw [BitVec.getLsbD_xor, lowB, lowB, BitVec.getLsbD_ofNat, BitVec.getLsbD_ofNat, Nat.testBit_mod_two_pow, Nat.testBit_mod_two_pow]
  have hb : (if r.getLsbD k then 1#n <<< k else 0#n).getLsbD i = (r.getLsbD k && decide (i = k)) := by
    cases r.getLsbD k
    · simp
    · simp only [if_true, BitVec.getLsbD_shiftLeft, Bool.true_and]
      by_cases h1 : i = k
      · subst h1; simp [hi]; omega
      · by_cases h2 : i < k
        · simp [h2]; omega
        · rw [one_bit _ _ (by omega)]; simp [h1]
  rw [hb]
  by_cases h1 : i = k
  · subst h1; simp [BitVec.getLsbD, hi]
  · by_cases h2 : i < k
    · simp [h1, h2, hi, show i < k + 1 by omega]
    · simp [h1, h2, hi, show ¬ i < k + 1 by omega]
theorem mulK_lin {f : BitVec n → BitVec n} (hf : Lin f) (r : BitVec n) : ∀ k, k ≤ n → mulK (matOf f) r k = f (lowB r k)
  | 0, _ => by rw [mulK, lowB, Nat.pow_zero, Nat.mod_one]; exact hf.zero.symm
  | k + 1, h => by
    rw [mulK, mulK_lin hf r k (by omega), lowB_succ r k (by omega), hf.xor]
    congr 1
    split
    · simp [matOf, show k < n by omega]
    · exact hf.zero.symm
theorem mulK_all {f : BitVec n → BitVec n} (hf : Lin f) (r : BitVec n) : mulK (matOf f) r n = f r := by
  rw [mulK_lin hf r n (Nat.le_refl _), lowB, Nat.mod_eq_of_lt r.isLt]; congr 1; simp
theorem mat_twice {f : BitVec n → BitVec n} (hf : Lin f) : (matOf f).map (fun x => mulK (matOf f) x n) = matOf (fun x => f (f x)) := by
  rw [matOf, List.map_map]
  apply List.map_congr_left
  intro i _
  exact mulK_all hf _
theorem iter_half {α : Type} (f : α → α) (k : Nat) (r : α) : iter f k r = iter (fun x => f (f x)) (k / 2) (if k % 2 = 1 then f r else r) := by
  have h2 : ∀ (j : Nat) (x : α), iter f (2 * j) x = iter (fun x => f (f x)) j x := fun j x => by
    rw [iter_mul]; rfl
  split
  · rename_i h
    conv => lhs; rw [show k = 1 + 2 * (k / 2) by omega]
    rw [iter_add, h2]; rfl
  · rename_i h
    conv => lhs; rw [show k = 2 * (k / 2) by omega]
    rw [h2]
end
theorem zb16_tab (r : BitVec 16) : zb16 r = r <<< 8 ^^^ tab16 (r >>> 8).toNat := by
  have h := byte16 r 0
  rw [run_emb lin16 16 he16 _ r (by rw [bitsH_length]; omega), bitsH_length, embH] at h
  rw [show BitVec.ofNat 16 (0 : UInt8).toNat <<< 8 = 0#16 by decide, BitVec.xor_zero] at h
  rw [zb16, h]; congr 2
  have h8 : (r >>> 8).toNat < 256 := by rw [BitVec.toNat_ushiftRight, Nat.shiftRight_eq_div_pow]; have := r.isLt; omega
  rw [UInt8.xor_zero, loB_toNat, Nat.mod_eq_of_lt h8]
theorem zb32_tab (r : BitVec 32) : zb32 r = r >>> 8 ^^^ tab32 (r.toNat % 256) := iter8_32 r
end Go.Proofs.Ytbncejmohhejlaa
