/- What is proved here: the walk of the function that shows that something is done, of the laws about sealed commands. -/
import Derived.Test.YtincoocagfegfaaU10
import Derived.Deep.RegionWith
set_option linter.unusedVariables false
set_option linter.unusedSimpArgs false
namespace Go.Proofs.Ytincoocagfegfaa
open Go.RowKit
theorem join8' (x : BitVec 64) : (x >>> 8) <<< 8 ||| z8 (lo8 x) = x := by
  apply BitVec.eq_of_getLsbD_eq
  intro i hi
  have hz : (z8 (lo8 x)).getLsbD i = (decide (i < 8) && x.getLsbD i) := by
    unfold z8 lo8
    rw [UInt8.toNat_ofNat', BitVec.getLsbD_ofNat, show (2 : Nat) ^ 8 = 256 from rfl, Nat.mod_mod, show 256 = 2 ^ 8 from rfl, Nat.testBit_mod_two_pow, BitVec.getLsbD]
    simp [hi]
  rw [BitVec.getLsbD_or, BitVec.getLsbD_shiftLeft, BitVec.getLsbD_ushiftRight, hz]
  by_cases h : i < 8
  · simp [h]
  · rw [show 8 + (i - 8) = i by omega]; simp [h, hi]
theorem shr64' (n : BitVec 64) : n >>> 64 = 0#64 := by
  apply BitVec.eq_of_getLsbD_eq
  intro i hi
  rw [BitVec.getLsbD_ushiftRight, BitVec.getLsbD_of_ge _ _ (by omega)]; simp
theorem num64_be8 (n : BitVec 64) : num64 (be8 n) = n := by
  have h : ∀ k, k ≤ 8 → num64 ((be8 n).take k) = n >>> (64 - 8 * k) := by
    intro k hk
    induction k with
    | zero =>
      rw [show 64 - 8 * 0 = 64 from rfl, shr64']; rfl
    | succ k ih =>
      rw [be8_take n k (by omega), num64_snoc, ih (by omega)]
      have e : n >>> (64 - 8 * k) = (n >>> (8 * (7 - k))) >>> 8 := by rw [← BitVec.shiftRight_add]; congr 1; omega
      rw [e, beByte, join8']
      congr 1; omega
  have := h 8 (Nat.le_refl _)
  rw [List.take_of_length_le (by simp [be8])] at this
  simpa using this
theorem step_nat (x : BitVec 64) (c : UInt8) (h : x.toNat < 72057594037927936) : (x <<< 8 ||| z8 c).toNat = x.toNat * 256 + c.toNat := by
  have := c.toNat_lt
  rw [shl_add_byte, BitVec.toNat_add, BitVec.toNat_shiftLeft]
  simp [z8, Nat.shiftLeft_eq]
  omega
theorem beByte_nat (n : BitVec 64) (j : Nat) : (beByte n j).toNat = n.toNat / 2 ^ (8 * (7 - j)) % 256 := by
  unfold beByte lo8
  rw [UInt8.toNat_ofNat', BitVec.toNat_ushiftRight, Nat.shiftRight_eq_div_pow]
  simp
theorem be8_num64 (l : List UInt8) (h : l.length = 8) : be8 (num64 l) = l := by
  match l, h with
  | [a, b, c, d, e, f, g, i], _ =>
    have ha := a.toNat_lt; have hb := b.toNat_lt; have hc := c.toNat_lt; have hd := d.toNat_lt
    have he := e.toNat_lt; have hf := f.toNat_lt; have hg := g.toNat_lt; have hi := i.toNat_lt
    obtain ⟨n1, h1⟩ : ∃ n1, n1 = (0#64 <<< 8 ||| z8 a) := ⟨_, rfl⟩
    obtain ⟨n2, h2⟩ : ∃ n2, n2 = (n1 <<< 8 ||| z8 b) := ⟨_, rfl⟩
    obtain ⟨n3, h3⟩ : ∃ n3, n3 = (n2 <<< 8 ||| z8 c) := ⟨_, rfl⟩
    obtain ⟨n4, h4⟩ : ∃ n4, n4 = (n3 <<< 8 ||| z8 d) := ⟨_, rfl⟩
    obtain ⟨n5, h5⟩ : ∃ n5, n5 = (n4 <<< 8 ||| z8 e) := ⟨_, rfl⟩
    obtain ⟨n6, h6⟩ : ∃ n6, n6 = (n5 <<< 8 ||| z8 f) := ⟨_, rfl⟩
    obtain ⟨n7, h7⟩ : ∃ n7, n7 = (n6 <<< 8 ||| z8 g) := ⟨_, rfl⟩
    obtain ⟨n8, h8⟩ : ∃ n8, n8 = (n7 <<< 8 ||| z8 i) := ⟨_, rfl⟩
    have hn : num64 [a, b, c, d, e, f, g, i] = n8 := by rw [h8, h7, h6, h5, h4, h3, h2, h1]; rfl
    have e1 : n1.toNat = a.toNat := by rw [h1, step_nat _ _ (by simp)]; simp
    have e2 : n2.toNat = n1.toNat * 256 + b.toNat := by rw [h2]; exact step_nat _ _ (by omega)
    have e3 : n3.toNat = n2.toNat * 256 + c.toNat := by rw [h3]; exact step_nat _ _ (by omega)
    have e4 : n4.toNat = n3.toNat * 256 + d.toNat := by rw [h4]; exact step_nat _ _ (by omega)
    have e5 : n5.toNat = n4.toNat * 256 + e.toNat := by rw [h5]; exact step_nat _ _ (by omega)
    have e6 : n6.toNat = n5.toNat * 256 + f.toNat := by rw [h6]; exact step_nat _ _ (by omega)
    have e7 : n7.toNat = n6.toNat * 256 + g.toNat := by rw [h7]; exact step_nat _ _ (by omega)
    have e8 : n8.toNat = n7.toNat * 256 + i.toNat := by rw [h8]; exact step_nat _ _ (by omega)
    rw [hn]
    clear hn h1 h2 h3 h4 h5 h6 h7 h8
    show [beByte n8 0, beByte n8 1, beByte n8 2, beByte n8 3, beByte n8 4, beByte n8 5, beByte n8 6, beByte n8 7] = _
    have b0 : beByte n8 0 = a := by apply UInt8.toNat_inj.1; rw [beByte_nat]; simp; omega
    have b1 : beByte n8 1 = b := by apply UInt8.toNat_inj.1; rw [beByte_nat]; simp; omega
    have b2 : beByte n8 2 = c := by apply UInt8.toNat_inj.1; rw [beByte_nat]; simp; omega
    have b3 : beByte n8 3 = d := by apply UInt8.toNat_inj.1; rw [beByte_nat]; simp; omega
    have b4 : beByte n8 4 = e := by apply UInt8.toNat_inj.1; rw [beByte_nat]; simp; omega
    have b5 : beByte n8 5 = f := by apply UInt8.toNat_inj.1; rw [beByte_nat]; simp; omega
    have b6 : beByte n8 6 = g := by apply UInt8.toNat_inj.1; rw [beByte_nat]; simp; omega
    have b7 : beByte n8 7 = i := by apply UInt8.toNat_inj.1; rw [beByte_nat]; simp; omega
    rw [b0, b1, b2, b3, b4, b5, b6, b7]
theorem flat_drop (f : Nat → List UInt8) (hf : ∀ i, (f i).length = 8) : ∀ (n i : Nat), i < n → (((List.range n).flatMap f).drop (8 * i)).take 8 = f i
  | 0, i, h => by omega
  | n + 1, i, h => by
    have hl : ((List.range n).flatMap f).length = 8 * n := by
      clear h
      induction n with
      | zero => simp
      | succ n ih => rw [List.range_succ, List.flatMap_append, List.length_append, ih]; simp [hf]; omega
    rw [List.range_succ, List.flatMap_append]
    by_cases hi : i = n
    · subst hi
      rw [List.drop_append_of_le_length (by omega), List.drop_of_length_le (by omega)]
      simp [hf, List.take_of_length_le]
    · rw [List.drop_append_of_le_length (by omega), List.take_append_of_le_length (by rw [List.length_drop, hl]; omega)]
      exact flat_drop f hf n i (by omega)
theorem bodyT_length (s : Gs) : (bodyT s).length = 72 := by unfold bodyT; rw [List.length_append, be8s_length, be8_length']
theorem textL_length (s : Gs) : (textL s).length = 76 := by unfold textL; rw [List.length_append, bodyT_length]; simp [be4, be8]
theorem read_text (s : Gs) : (readL (textL s)).ser = s.ser ∧ ∀ i, i < 8 → (readL (textL s)).l i = s.l i := by
  have hb : textL s = be8 s.ser ++ ((List.range 8).flatMap (fun i => be8 (s.l i)) ++ be4 (sum32 (bodyT s))) := by unfold textL bodyT; rw [List.append_assoc]
  constructor
  · show num64 ((textL s).take 8) = _
    rw [hb, List.take_append_of_le_length (by simp [be8]), List.take_of_length_le (by simp [be8]), num64_be8]
  · intro i hi
    show num64 (((textL s).drop (8 + 8 * i)).take 8) = _
    rw [hb, ← List.drop_drop, List.drop_left' (be8_length' _)]
    rw [List.drop_append_of_le_length (by rw [be8s_length]; omega), List.take_append_of_le_length (by rw [List.length_drop, be8s_length]; omega)]
    rw [flat_drop (fun i => be8 (s.l i)) (fun i => be8_length' _) 8 i hi, num64_be8]
theorem text_congr (s r : Gs) (h0 : r.ser = s.ser) (h : ∀ i, i < 8 → r.l i = s.l i) : textL r = textL s := by
  have hb : bodyT r = bodyT s := by
    unfold bodyT
    rw [h0]
    congr 1
    rw [List.flatMap_def, List.flatMap_def]
    congr 1
    apply List.map_congr_left
    intro i hi
    rw [h i (List.mem_range.1 hi)]
  unfold textL; rw [hb]
theorem saved_text (s : Gs) : isSaved (textL s) = true := by
  unfold isSaved
  rw [text_congr s (readL (textL s)) (read_text s).1 (read_text s).2, textL_length]
  simp
end Go.Proofs.Ytincoocagfegfaa
