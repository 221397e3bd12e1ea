/- What is proved here: the two ways to make a keyed sum are one; the walks of the reference's Seal and Open. -/
import Derived.Test.YtincoocagfegfaaK10
set_option linter.unusedVariables false
set_option linter.unusedSimpArgs false
namespace Go.Proofs.Ytincoocagfegfaa
open Go.RowKit
theorem addL_append : ∀ (r1 : List UInt8) (x : Four) (left r2 : List UInt8), addL x left (r1 ++ r2) = addL (addL x left r1).1 (addL x left r1).2 r2
  | [], _, _, _ => rfl
  | c :: r1, x, left, r2 => addL_append r1 _ _ r2
/-- Fewer than eight bytes stay. -/
theorem addL_short : ∀ (r : List UInt8) (x : Four) (left : List UInt8), left.length + r.length ≤ 7 → addL x left r = (x, left ++ r)
  | [], x, left, _ => by simp [addL]
  | c :: r, x, left, h => by
    have h1 : ¬ left.length = 7 := by simp at h; omega
    rw [addL, addS, if_neg h1]
    rw [addL_short r x (left ++ [c]) (by simp at h ⊢; omega)]
    simp
theorem addL_eight (c : List UInt8) (x : Four) (h : c.length = 8) : addL x [] c = (x.take (numLE c), []) := by
  obtain ⟨d, hd⟩ : ∃ d, d = c.take 7 := ⟨_, rfl⟩
  have hc : c = d ++ [c[7]] := by
    rw [hd]
    have := List.take_append_drop 7 c
    rw [List.drop_eq_getElem_cons (by omega), List.drop_eq_nil_of_le (by omega)] at this
    exact this.symm
  have hdl : d.length = 7 := by rw [hd]; simp; omega
  rw [hc, addL_append, addL_short d x [] (by simp; omega)]
  simp [addL, addS, hdl]
theorem addL_chunks : ∀ (n : Nat) (x : Four) (l : List UInt8), l.length = 8 * n → addL x [] l = (chunkN n x l, [])
  | 0, x, l, h => by
    have : l = [] := List.eq_nil_of_length_eq_zero (by omega)
    subst this; rfl
  | n + 1, x, l, h => by
    have h8 : (l.take 8).length = 8 := by simp; omega
    conv => lhs; rw [← List.take_append_drop 8 l]
    rw [addL_append, addL_eight _ _ h8, addL_chunks n _ (l.drop 8) (by simp; omega), chunkN]
theorem chunkN_take : ∀ (n : Nat) (x : Four) (l r : List UInt8), l.length = 8 * n → chunkN n x (l ++ r) = chunkN n x l
  | 0, _, _, _, _ => rfl
  | n + 1, x, l, r, h => by
    rw [chunkN, chunkN, List.take_append_of_le_length (by omega), List.drop_append_of_le_length (by omega), chunkN_take n _ (l.drop 8) r (by simp; omega)]
theorem refSum_eq (key b : List UInt8) : refSum key b = keyedSum key b := by
  obtain ⟨q, hq⟩ : ∃ q, q = b.length / 8 := ⟨_, rfl⟩
  obtain ⟨x, hx⟩ : ∃ x, x = Four.begin key := ⟨_, rfl⟩
  obtain ⟨f, hf⟩ : ∃ f, f = b.take (8 * q) := ⟨_, rfl⟩
  obtain ⟨r, hr⟩ : ∃ r, r = b.drop (8 * q) := ⟨_, rfl⟩
  have hb : b = f ++ r := by rw [hf, hr, List.take_append_drop]
  have hfl : f.length = 8 * q := by rw [hf]; simp; omega
  have hrl : r.length = b.length % 8 := by rw [hr]; simp; omega
  have h1 : addL x [] b = (chunkN q x f, r) := by
    rw [hb, addL_append, addL_chunks q x f hfl, addL_short r _ [] (by simp; omega)]; simp
  have h2 : padded b = f ++ (r ++ List.replicate (7 - r.length) 0 ++ [UInt8.ofNat (b.length % 256)]) := by
    rw [padded, ← hrl, show b ++ List.replicate (7 - r.length) (0 : UInt8) = (f ++ r) ++ List.replicate (7 - r.length) 0 by rw [← hb]]
    simp
  have hc : UInt8.ofNat (b.length % 256) = UInt8.ofNat b.length := by
    apply UInt8.toNat_inj.1; simp
  unfold refSum keyedSum sumEnd
  rw [← hx, ← hq]
  simp only [h1]
  rw [chunkN_succ, h2, chunkN_take q x f _ hfl, List.drop_append_of_le_length (by omega), List.drop_eq_nil_of_le (by omega), List.nil_append,
    List.take_of_length_le (by simp; omega), hc]
theorem rSum_any (key b : ByteArray) (w : World) (hk : key.size = 16) (hb : b.size ≤ 1000000000) :
    Calls Try.prog 18 #[.string key, .string b] w fun e w' => e = .returned (.tuple #[.int .u64 (w64 (keyedSum key.data.toList b.data.toList)), .int .i64 0]) ∧ Below w.heap.size w w' := by
  rw [← refSum_eq]; exact rSum_ok key b w hk hb
attribute [local go_sem] run_bytes bytes_size
end Go.Proofs.Ytincoocagfegfaa
