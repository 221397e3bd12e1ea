/- What is proved here: fed segments of a packet, in plain Lean: the state behind each of them and what is answered. -/
import Derived.Test.YtebgehmgjafblaaA7
import Derived.Test.YtebgehmgjafblaaT7
set_option linter.unusedVariables false
set_option linter.unusedSimpArgs false
namespace Go.Proofs.Ytebgehmgjafblaa
open Go.RowKit
theorem seg_list (p : ByteArray) (m k : Nat) : (seg p m k).data.toList = segFlag p.size m k :: (p.data.toList.drop (k * m)).take (min ((k + 1) * m) p.size - k * m) := by
  unfold seg
  simp [ByteArray.data_extract, Array.toList_extract, List.extract_eq_take_drop]
theorem flag_val (a b : Bool) : ((if a = true then (64 : UInt8) else 0) ||| (if b = true then 128 else 0)).toNat = (if a = true then 64 else 0) + (if b = true then 128 else 0) := by
  cases a <;> cases b <;> decide
theorem carry_step (p : ByteArray) (m k N : Nat) (op : Bool) (xs : List UInt8) (hm1 : 1 ≤ m) (hm2 : m ≤ 199) (hp1 : 1 ≤ p.size) (hp2 : p.size ≤ 1030) (hN : N = segN p.size m) (hk : k < N) (hst : k ≠ 0 → op = true ∧ xs = p.data.toList.take (k * m)) :
    feedF op xs (seg p m k).data.toList = ((decide (k + 1 = N), if k + 1 = N then p.data.toList else [], if k = 0 then op else false), 0, decide (¬ k + 1 = N), if k + 1 = N then [] else p.data.toList.take ((k + 1) * m)) := by
  obtain ⟨n1, n2, n3⟩ := segN_spec p.size m hm1 hp1
  rw [← hN] at n1 n2 n3
  have hps : p.data.toList.length = p.size := by rw [← Lib.size_eq]
  have hkm : k * m < p.size := by
    have h := Nat.mul_le_mul_right m (show k ≤ N - 1 by omega)
    omega
  have hk1 : (k + 1) * m = k * m + m := Nat.succ_mul k m
  have hlast : (p.size ≤ (k + 1) * m) ↔ k + 1 = N := by
    constructor
    · intro h
      by_cases h2 : k + 1 = N
      · exact h2
      · have h3 := Nat.mul_le_mul_right m (show k + 1 ≤ N - 1 by omega)
        omega
    · intro h
      rw [h]; exact n2
  obtain ⟨part, hpart⟩ : ∃ q, q = (p.data.toList.drop (k * m)).take (min ((k + 1) * m) p.size - k * m) := ⟨_, rfl⟩
  have hpl : part.length = min ((k + 1) * m) p.size - k * m := by
    rw [hpart, List.length_take, List.length_drop, hps]; omega
  have hflag : (segFlag p.size m k).toNat = (if k = 0 then 64 else 0) + (if p.size ≤ (k + 1) * m then 128 else 0) := by
    have h := flag_val (decide (k = 0)) (decide (p.size ≤ (k + 1) * m))
    simpa [segFlag] using h
  rw [seg_list, ← hpart]
  have hok : segOk (segFlag p.size m k :: part) = true := by
    unfold segOk
    apply decide_eq_true
    refine ⟨by rw [List.length_cons, hpl]; omega, by rw [List.length_cons, hpl]; omega, ?_⟩
    rw [List.headD_cons, hflag]
    split <;> split <;> rfl
  unfold feedF
  rw [if_pos hok, List.headD_cons, hflag, List.drop_one, List.tail_cons]
  by_cases hL : k + 1 = N
  · have hle := hlast.2 hL
    have hpe : part = p.data.toList.drop (k * m) := by
      rw [hpart, List.take_of_length_le (by rw [List.length_drop, hps]; omega)]
    rw [if_pos hle]
    by_cases h0 : k = 0
    · subst h0
      have : part = p.data.toList := by rw [hpe]; simp
      simp [stepF, hL, this]
    · obtain ⟨ho, hxs⟩ := hst h0
      have happ : xs ++ part = p.data.toList := by rw [hxs, hpe, List.take_append_drop]
      have hmid : midF op xs part = (true, p.data.toList, false) := by
        unfold midF
        rw [if_pos ho, happ, if_pos (by omega)]
      simp [stepF, hL, h0, hmid]
  · have hle : ¬ p.size ≤ (k + 1) * m := fun h => hL (hlast.1 h)
    have hpe : part = (p.data.toList.drop (k * m)).take m := by
      rw [hpart]; congr 1; omega
    rw [if_neg hle]
    by_cases h0 : k = 0
    · subst h0
      have : part = p.data.toList.take m := by rw [hpe]; simp
      simp [stepF, hL, this]
    · obtain ⟨ho, hxs⟩ := hst h0
      have happ : xs ++ part = p.data.toList.take ((k + 1) * m) := by rw [hxs, hpe, hk1, List.take_add]
      have hmid : midF op xs part = (true, p.data.toList.take ((k + 1) * m), false) := by
        unfold midF
        rw [if_pos ho, happ, if_pos (by rw [List.length_take]; omega)]
      simp [stepF, hL, h0, hmid]
end Go.Proofs.Ytebgehmgjafblaa
