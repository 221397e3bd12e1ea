/- What is proved here: a part of the proof of TopLink (texts Fi7 Fi8 Fi9 Fi10). No condition. -/
import Derived.Test.YtgopighmifpefaaGreatDoorPart14
import Derived.Test.YtgopighmifpefaaGreatDoorPart16
set_option linter.unusedVariables false
set_option linter.unusedSimpArgs false
namespace Go.Proofs.YtgopighmifpefaaGreatDoor
section
open Go.RowKit
open Fb (pc)
theorem remA_rem (l : List UInt8) : Fb.remA (l.map UInt8.toNat) = remL l := by
  unfold Fb.remA remL
  rw [List.foldl_map]
  rfl
theorem parN_nat (l : List UInt8) : (parN l).toNat = 254 - 2 * remL l := by
  have := remL_lt l
  unfold parN
  simp; omega
theorem blocksN_get (n : Nat) : ∀ (l : List UInt8), l.length = 7 * n → ∀ B, B < n → (∀ r, r < 7 → (blocksN n l).getD (8 * B + r) 0 = l.getD (7 * B + r) 0) ∧ (blocksN n l).getD (8 * B + 7) 0 = parN ((l.drop (7 * B)).take 7) := by
  induction n with
  | zero => intro l _ B hB; omega
  | succ n ih =>
    intro l hl B hB
    have h7 : (l.take 7).length = 7 := by rw [List.length_take]; omega
    have h8 : (blockL (l.take 7)).length = 8 := by simp [blockL]; omega
    have e : blocksN (n + 1) l = blockL (l.take 7) ++ blocksN n (l.drop 7) := rfl
    rw [e]
    cases B with
    | zero =>
      refine ⟨fun r hr => ?_, ?_⟩
      · rw [List.getD_eq_getElem?_getD, List.getElem?_append_left (by omega)]
        unfold blockL
        rw [List.getElem?_append_left (by omega), List.getElem?_take, if_pos (by omega), List.getD_eq_getElem?_getD]
      · rw [List.getD_eq_getElem?_getD, List.getElem?_append_left (by omega)]
        unfold blockL
        rw [List.getElem?_append_right (by omega), h7]
        simp
    | succ B =>
      obtain ⟨i1, i2⟩ := ih (l.drop 7) (by rw [List.length_drop]; omega) B (by omega)
      refine ⟨fun r hr => ?_, ?_⟩
      · rw [List.getD_eq_getElem?_getD, List.getElem?_append_right (by omega), h8, show 8 * (B + 1) + r - 8 = 8 * B + r by omega, ← List.getD_eq_getElem?_getD, i1 r hr, List.getD_eq_getElem?_getD, List.getElem?_drop, List.getD_eq_getElem?_getD]
        congr 2; omega
      · rw [List.getD_eq_getElem?_getD, List.getElem?_append_right (by omega), h8, show 8 * (B + 1) + 7 - 8 = 8 * B + 7 by omega, ← List.getD_eq_getElem?_getD, i2, List.drop_drop]
        congr 3; omega
theorem blocksN_len (n : Nat) : ∀ (l : List UInt8), l.length = 7 * n → (blocksN n l).length = 8 * n := by
  induction n with
  | zero => intro l _; rfl
  | succ n ih =>
    intro l hl
    show (blockL (l.take 7) ++ blocksN n (l.drop 7)).length = _
    rw [List.length_append, ih _ (by rw [List.length_drop]; omega)]
    have : (blockL (l.take 7)).length = 8 := by simp [blockL]; omega
    omega
/-- The number of blocks. -/
def mN (n : Nat) : Nat := (n + 6) / 7
theorem pad_m (l : List UInt8) : (padL l).length = 7 * mN l.length := by
  obtain ⟨h1, h2⟩ := padL_len l
  unfold mN
  have : padN l.length ≤ 6 := by unfold padN; omega
  omega
theorem putL_len (l : List UInt8) : (putL l).length = 10 + 8 * mN l.length := by
  unfold putL
  rw [List.length_append, List.length_append, blocksN_len _ _ (by rw [pad_m]; omega), pad_m]
  simp [tailL]; omega
/-- The byte j of the unit of l. -/
def ub (l : List UInt8) (j : Nat) : Nat := ((putL l).getD j 0).toNat
theorem ub_lt (l : List UInt8) (j : Nat) : ub l j < 256 := UInt8.toNat_lt _
theorem ub_0 (l : List UInt8) : ub l 0 = 235 ∧ ub l 1 = 144 := ⟨rfl, rfl⟩
theorem ub_blk (l : List UInt8) (B : Nat) (hB : B < mN l.length) : (∀ r, r < 7 → ub l (2 + (8 * B + r)) = ((padL l).getD (7 * B + r) 0).toNat) ∧ ub l (2 + (8 * B + 7)) = 254 - 2 * remL (((padL l).drop (7 * B)).take 7) := by
  have hp := pad_m l
  have hm : (padL l).length / 7 = mN l.length := by omega
  obtain ⟨h1, h2⟩ := blocksN_get (mN l.length) (padL l) hp B hB
  have hlen := blocksN_len (mN l.length) (padL l) hp
  have g : ∀ j, j < 8 * mN l.length → (putL l).getD (2 + j) 0 = (blocksN (mN l.length) (padL l)).getD j 0 := by
    intro j hj
    unfold putL
    rw [hm, List.append_assoc, List.getD_eq_getElem?_getD, List.getElem?_append_right (by simp), List.getElem?_append_left (by simp; omega), List.getD_eq_getElem?_getD]
    simp
  refine ⟨fun r hr => ?_, ?_⟩
  · unfold ub; rw [g _ (by omega), h1 r hr]
  · unfold ub; rw [g _ (by omega), h2, parN_nat]
/-- A byte ahead of the last block but for its end is a byte of l, not of the checksum. -/
theorem ub_known (l : List UInt8) (B r : Nat) (hr : r < 7) (h : 2 + (8 * B + r) + 9 ≤ 8 * mN l.length) : 7 * B + r + 3 ≤ l.length ∧ ub l (2 + (8 * B + r)) = (l.getD (7 * B + r) 0).toNat := by
  have hmn : 7 * mN l.length ≤ l.length + 6 := by unfold mN; omega
  have h3 : 7 * B + r + 3 ≤ l.length := by omega
  refine ⟨h3, ?_⟩
  rw [(ub_blk l B (by omega)).1 r hr]
  unfold padL
  rw [List.getD_eq_getElem?_getD, List.getElem?_append_left (by omega), List.getD_eq_getElem?_getD]
theorem ub_par (l : List UInt8) (B : Nat) (h : B < mN l.length) : ub l (2 + (8 * B + 7)) % 2 = 0 := by
  rw [(ub_blk l B h).2]
  have := remL_lt (((padL l).drop (7 * B)).take 7)
  omega
/-- The bytes are as the codes say. -/
def Match (U : Nat → Nat) (W : List Nat) (n : Nat) : Prop := ∀ i, i < n → (W.getD i 256 < 256 → U i = W.getD i 256) ∧ (W.getD i 256 = 257 → U i % 2 = 0)
theorem Match.drop {U : Nat → Nat} {W : List Nat} {n : Nat} (h : Match U W n) (o : Nat) : Match (fun i => U (o + i)) (W.drop o) (n - o) := by
  intro i hi
  have := h (o + i) (by omega)
  rwa [show (W.drop o).getD i 256 = W.getD (o + i) 256 by rw [List.getD_eq_getElem?_getD, List.getElem?_drop, List.getD_eq_getElem?_getD]]
theorem even_pc : ∀ v : Nat, v < 256 → ∀ c : Nat, c < 256 → v % 2 = 0 → c % 2 ≤ pc (v ^^^ c) := by decide +kernel
theorem oc_le (U : Nat → Nat) (W : List Nat) (n i c : Nat) (hm : Match U W n) (hi : i < n) (hu : U i < 256) (hc : c < 256) : Fb.oc (W.getD i 256) c ≤ pc (U i ^^^ c) := by
  obtain ⟨h1, h2⟩ := hm i hi
  unfold Fb.oc
  split
  · rename_i h; rw [h1 h]; exact Nat.le_refl _
  · split
    · rename_i h; exact even_pc _ hu c hc (h2 h)
    · exact Nat.zero_le _
theorem lo5_le : ∀ v : Nat, v < 256 → ∀ L : Nat, L < 207 → 8 ≤ L → Fb.lo5 v ≤ pc (v ^^^ L) := by decide +kernel
theorem lo2_le : ∀ v : Nat, v < 256 → ∀ L : Nat, L < 14 → 8 ≤ L → Fb.lo2 v ≤ pc (v ^^^ L) := by decide +kernel
/-- What a frame may begin with. -/
def PP (LL SS FF D : Nat) : Prop := 8 ≤ LL ∧ LL ≤ 206 ∧ SS < 256 ∧ D < 256 ∧ (FF = 128 ∨ FF = 0 ∧ 27 ≤ LL ∨ FF = 64 ∧ D = 16 ∧ 27 ≤ LL ∨ FF = 192 ∧ D = 16 ∧ 14 ≤ LL)
theorem PP.b {LL SS FF D : Nat} (h : PP LL SS FF D) : Fb.ppB LL FF D = true := by
  obtain ⟨h1, h2, _, _, h5⟩ := h
  unfold Fb.ppB
  rcases h5 with rfl | ⟨rfl, h⟩ | ⟨rfl, rfl, h⟩ | ⟨rfl, rfl, h⟩ <;> simp [*]
theorem PP.ff {LL SS FF D : Nat} (h : PP LL SS FF D) : FF ∈ [0, 64, 128, 192] := by
  rcases h.2.2.2.2 with rfl | ⟨rfl, _⟩ | ⟨rfl, _⟩ | ⟨rfl, _⟩ <;> simp
/-- The cost of the first three bytes, of the first block. -/
def cS (U : Nat → Nat) : Nat := pc (U 0 ^^^ 235) + pc (U 1 ^^^ 144)
def cB (U : Nat → Nat) (LL SS FF D : Nat) : Nat := pc (U 2) + pc (U 3 ^^^ 1) + pc (U 4) + pc (U 5 ^^^ LL) + pc (U 6 ^^^ SS) + pc (U 7 ^^^ FF) + pc (U 8 ^^^ D)
theorem lb_sound (U : Nat → Nat) (W : List Nat) (hu : ∀ i, U i < 256) (hm : Match U W 9) (LL SS FF D : Nat) (hp : PP LL SS FF D) : Fb.lbL W ≤ (cS U - 1) + (cB U LL SS FF D - 1) := by
  obtain ⟨h1, h2, h3, h4, h5⟩ := hp
  have k := fun i c (hi : i < 9) (hc : c < 256) => oc_le U W 9 i c hm hi (hu i) hc
  have k0 := k 0 235 (by decide) (by decide); have k1 := k 1 144 (by decide) (by decide); have k2 := k 2 0 (by decide) (by decide); have k3 := k 3 1 (by decide) (by decide); have k4 := k 4 0 (by decide) (by decide)
  rw [Nat.xor_zero] at k2 k4
  have k5 : Fb.lo5 (W.getD 5 256) ≤ pc (U 5 ^^^ LL) := by
    by_cases h : W.getD 5 256 < 256
    · rw [(hm 5 (by decide)).1 h]; exact lo5_le _ h LL (by omega) h1
    · unfold Fb.lo5; rw [if_neg h]; exact Nat.zero_le _
  have k7 := fun c hc => k 7 c (by decide) hc
  have k8 := k 8 16 (by decide) (by decide)
  have k78 : Fb.ff (W.getD 7 256) (W.getD 8 256) ≤ pc (U 7 ^^^ FF) + pc (U 8 ^^^ D) := by
    have a0 := k7 0 (by decide); have a1 := k7 64 (by decide); have a2 := k7 128 (by decide); have a3 := k7 192 (by decide)
    unfold Fb.ff
    rcases h5 with rfl | ⟨rfl, _⟩ | ⟨rfl, rfl, _⟩ | ⟨rfl, rfl, _⟩ <;> omega
  unfold cS cB
  match W, k0, k1, k2, k3, k4, k5, k78 with
  | w0 :: w1 :: w2 :: w3 :: w4 :: w5 :: w6 :: w7 :: w8 :: l, k0, k1, k2, k3, k4, k5, k78 =>
    simp only [List.getD_eq_getElem?_getD, List.getElem?_cons_zero, List.getElem?_cons_succ, Option.getD_some] at k0 k1 k2 k3 k4 k5 k78
    simp only [Fb.lbL]
    omega
  | [], _, _, _, _, _, _, _ => simp [Fb.lbL]
  | [_], _, _, _, _, _, _, _ => simp [Fb.lbL]
  | [_, _], _, _, _, _, _, _, _ => simp [Fb.lbL]
  | [_, _, _], _, _, _, _, _, _, _ => simp [Fb.lbL]
  | [_, _, _, _], _, _, _, _, _, _, _ => simp [Fb.lbL]
  | [_, _, _, _, _], _, _, _, _, _, _, _ => simp [Fb.lbL]
  | [_, _, _, _, _, _], _, _, _, _, _, _, _ => simp [Fb.lbL]
  | [_, _, _, _, _, _, _], _, _, _, _, _, _, _ => simp [Fb.lbL]
  | [_, _, _, _, _, _, _, _], _, _, _, _, _, _, _ => simp [Fb.lbL]
theorem lbS_sound (U : Nat → Nat) (W : List Nat) (hu : ∀ i, U i < 256) (hm : Match U W 8) (LL SS D : Nat) (h1 : 8 ≤ LL) (h2 : LL ≤ 13) : Fb.lbS W ≤ (cS U - 1) + (cB U LL SS 128 D - 1) := by
  have k := fun i c (hi : i < 8) (hc : c < 256) => oc_le U W 8 i c hm hi (hu i) hc
  have k0 := k 0 235 (by decide) (by decide); have k1 := k 1 144 (by decide) (by decide); have k2 := k 2 0 (by decide) (by decide); have k3 := k 3 1 (by decide) (by decide); have k4 := k 4 0 (by decide) (by decide); have k7 := k 7 128 (by decide) (by decide)
  rw [Nat.xor_zero] at k2 k4
  have k5 : Fb.lo2 (W.getD 5 256) ≤ pc (U 5 ^^^ LL) := by
    by_cases h : W.getD 5 256 < 256
    · rw [(hm 5 (by decide)).1 h]; exact lo2_le _ h LL (by omega) h1
    · unfold Fb.lo2; rw [if_neg h]; exact Nat.zero_le _
  unfold cS cB
  match W, k0, k1, k2, k3, k4, k5, k7 with
  | w0 :: w1 :: w2 :: w3 :: w4 :: w5 :: w6 :: w7 :: l, k0, k1, k2, k3, k4, k5, k7 =>
    simp only [List.getD_eq_getElem?_getD, List.getElem?_cons_zero, List.getElem?_cons_succ, Option.getD_some] at k0 k1 k2 k3 k4 k5 k7
    simp only [Fb.lbS]
    omega
  | [], _, _, _, _, _, _, _ => simp [Fb.lbS]
  | [_], _, _, _, _, _, _, _ => simp [Fb.lbS]
  | [_, _], _, _, _, _, _, _, _ => simp [Fb.lbS]
  | [_, _, _], _, _, _, _, _, _, _ => simp [Fb.lbS]
  | [_, _, _, _], _, _, _, _, _, _, _ => simp [Fb.lbS]
  | [_, _, _, _, _], _, _, _, _, _, _, _ => simp [Fb.lbS]
  | [_, _, _, _, _, _], _, _, _, _, _, _, _ => simp [Fb.lbS]
  | [_, _, _, _, _, _, _], _, _, _, _, _, _, _ => simp [Fb.lbS]
end
section
open Go.RowKit
open Fb (pc)
def rampL (x m : Nat) : List UInt8 := (List.range m).map fun i => UInt8.ofNat (x + i)
theorem rampL_len (x m : Nat) : (rampL x m).length = m := by simp [rampL]
theorem rampL_get (x m i : Nat) (h : i < m) : ((rampL x m).getD i 0).toNat = (x + i) % 256 := by
  rw [List.getD_eq_getElem?_getD, List.getElem?_eq_getElem (by simpa [rampL_len] using h)]
  simp [rampL]
/-- A frame with a later segment. -/
def mlE (SQ F x m : Nat) (c1 c2 : UInt8) : List UInt8 := [0, 1, 0, UInt8.ofNat (m + 7), UInt8.ofNat SQ, UInt8.ofNat F] ++ (rampL x m ++ [c1, c2])
/-- A frame with the first segment of a packet. -/
def foE (SQ F Ch cl lh ll m : Nat) (c1 c2 : UInt8) : List UInt8 := [0, 1, 0, UInt8.ofNat (m + 13), UInt8.ofNat SQ, UInt8.ofNat F, 16, 0, UInt8.ofNat Ch, UInt8.ofNat cl, UInt8.ofNat lh, UInt8.ofNat ll] ++ (rampL cl m ++ [c1, c2])
theorem mlE_len (SQ F x m : Nat) (c1 c2 : UInt8) : (mlE SQ F x m c1 c2).length = m + 8 := by simp [mlE, rampL_len]
theorem foE_len (SQ F Ch cl lh ll m : Nat) (c1 c2 : UInt8) : (foE SQ F Ch cl lh ll m c1 c2).length = m + 14 := by simp [foE, rampL_len]
theorem mlE_get (SQ F x m : Nat) (c1 c2 : UInt8) (i : Nat) (h : 6 ≤ i) (h2 : i < m + 6) : ((mlE SQ F x m c1 c2).getD i 0).toNat = (x + (i - 6)) % 256 := by
  rw [← rampL_get x m (i - 6) (by omega)]
  unfold mlE
  rw [List.getD_eq_getElem?_getD, List.getElem?_append_right (by simpa using h), List.getElem?_append_left (by rw [rampL_len]; simp; omega), List.getD_eq_getElem?_getD]
  rfl
theorem foE_get (SQ F Ch cl lh ll m : Nat) (c1 c2 : UInt8) (i : Nat) (h : 12 ≤ i) (h2 : i < m + 12) : ((foE SQ F Ch cl lh ll m c1 c2).getD i 0).toNat = (cl + (i - 12)) % 256 := by
  rw [← rampL_get cl m (i - 12) (by omega)]
  unfold foE
  rw [List.getD_eq_getElem?_getD, List.getElem?_append_right (by simpa using h), List.getElem?_append_left (by rw [rampL_len]; simp; omega), List.getD_eq_getElem?_getD]
  rfl
theorem known (e : List UInt8) (j B r : Nat) (hj : j = 2 + (8 * B + r)) (hr : r < 7) (h : j + 9 ≤ 8 * mN e.length) : 7 * B + r + 3 ≤ e.length ∧ ub e j = (e.getD (7 * B + r) 0).toNat := by
  subst hj
  exact ub_known e B r hr h
theorem parity (e : List UInt8) (j B : Nat) (hj : j = 2 + (8 * B + 7)) (h : j + 9 ≤ 8 * mN e.length) : ub e j % 2 = 0 := by
  subst hj
  exact ub_par e B (by omega)
theorem ml_match (SQ F x m : Nat) (c1 c2 : UInt8) (hF : F < 256) : Match (ub (mlE SQ F x m c1 c2)) (Fb.mlU F x) (8 * mN (mlE SQ F x m c1 c2).length - 8) := by
  intro i hi
  have hl := mlE_len SQ F x m c1 c2
  by_cases h26 : i < 26
  · have hi2 : i = 0 ∨ i = 1 ∨ i = 2 ∨ i = 3 ∨ i = 4 ∨ i = 5 ∨ i = 6 ∨ i = 7 ∨ i = 8 ∨ i = 9 ∨ i = 10 ∨ i = 11 ∨ i = 12 ∨ i = 13 ∨ i = 14 ∨ i = 15 ∨ i = 16 ∨ i = 17 ∨ i = 18 ∨ i = 19 ∨ i = 20 ∨ i = 21 ∨ i = 22 ∨ i = 23 ∨ i = 24 ∨ i = 25 := by omega
    rcases hi2 with rfl | rfl | rfl | rfl | rfl | rfl | rfl | rfl | rfl | rfl | rfl | rfl | rfl | rfl | rfl | rfl | rfl | rfl | rfl | rfl | rfl | rfl | rfl | rfl | rfl | rfl
    · show (235 < 256 → _ = 235) ∧ (235 = 257 → _)
      exact ⟨fun _ => (ub_0 _).1, fun h => by omega⟩
    · show (144 < 256 → _ = 144) ∧ (144 = 257 → _)
      exact ⟨fun _ => (ub_0 _).2, fun h => by omega⟩
    · show (0 < 256 → _ = 0) ∧ (0 = 257 → _)
      refine ⟨fun hx => ?_, fun h => by omega⟩
      obtain ⟨h1, h2⟩ := known (mlE SQ F x m c1 c2) 2 0 0 rfl (by decide) (by omega)
      rw [h2]
      rfl
    · show (1 < 256 → _ = 1) ∧ (1 = 257 → _)
      refine ⟨fun hx => ?_, fun h => by omega⟩
      obtain ⟨h1, h2⟩ := known (mlE SQ F x m c1 c2) 3 0 1 rfl (by decide) (by omega)
      rw [h2]
      rfl
    · show (0 < 256 → _ = 0) ∧ (0 = 257 → _)
      refine ⟨fun hx => ?_, fun h => by omega⟩
      obtain ⟨h1, h2⟩ := known (mlE SQ F x m c1 c2) 4 0 2 rfl (by decide) (by omega)
      rw [h2]
      rfl
    · show (256 < 256 → _) ∧ (256 = 257 → _)
      exact ⟨fun h => by omega, fun h => by omega⟩
    · show (256 < 256 → _) ∧ (256 = 257 → _)
      exact ⟨fun h => by omega, fun h => by omega⟩
    · show (F < 256 → _ = F) ∧ (F = 257 → _)
      refine ⟨fun hx => ?_, fun h => by omega⟩
      obtain ⟨h1, h2⟩ := known (mlE SQ F x m c1 c2) 7 0 5 rfl (by decide) (by omega)
      rw [h2]
      show (UInt8.ofNat F).toNat = F; simp; omega
    · show (x % 256 < 256 → _ = x % 256) ∧ (x % 256 = 257 → _)
      refine ⟨fun hx => ?_, fun h => by omega⟩
      obtain ⟨h1, h2⟩ := known (mlE SQ F x m c1 c2) 8 0 6 rfl (by decide) (by omega)
      rw [h2]
      rw [mlE_get SQ F x m c1 c2 6 (by decide) (by omega)] <;> omega
    · show (257 < 256 → _) ∧ (257 = 257 → _)
      exact ⟨fun h => by omega, fun _ => parity _ 9 0 rfl (by omega)⟩
    · show ((x + 1) % 256 < 256 → _ = (x + 1) % 256) ∧ ((x + 1) % 256 = 257 → _)
      refine ⟨fun hx => ?_, fun h => by omega⟩
      obtain ⟨h1, h2⟩ := known (mlE SQ F x m c1 c2) 10 1 0 rfl (by decide) (by omega)
      rw [h2]
      rw [mlE_get SQ F x m c1 c2 7 (by decide) (by omega)] <;> omega
    · show ((x + 1 + 1) % 256 < 256 → _ = (x + 1 + 1) % 256) ∧ ((x + 1 + 1) % 256 = 257 → _)
      refine ⟨fun hx => ?_, fun h => by omega⟩
      obtain ⟨h1, h2⟩ := known (mlE SQ F x m c1 c2) 11 1 1 rfl (by decide) (by omega)
      rw [h2]
      rw [mlE_get SQ F x m c1 c2 8 (by decide) (by omega)] <;> omega
    · show ((x + 1 + 2) % 256 < 256 → _ = (x + 1 + 2) % 256) ∧ ((x + 1 + 2) % 256 = 257 → _)
      refine ⟨fun hx => ?_, fun h => by omega⟩
      obtain ⟨h1, h2⟩ := known (mlE SQ F x m c1 c2) 12 1 2 rfl (by decide) (by omega)
      rw [h2]
      rw [mlE_get SQ F x m c1 c2 9 (by decide) (by omega)] <;> omega
    · show ((x + 1 + 3) % 256 < 256 → _ = (x + 1 + 3) % 256) ∧ ((x + 1 + 3) % 256 = 257 → _)
      refine ⟨fun hx => ?_, fun h => by omega⟩
      obtain ⟨h1, h2⟩ := known (mlE SQ F x m c1 c2) 13 1 3 rfl (by decide) (by omega)
      rw [h2]
      rw [mlE_get SQ F x m c1 c2 10 (by decide) (by omega)] <;> omega
    · show ((x + 1 + 4) % 256 < 256 → _ = (x + 1 + 4) % 256) ∧ ((x + 1 + 4) % 256 = 257 → _)
      refine ⟨fun hx => ?_, fun h => by omega⟩
      obtain ⟨h1, h2⟩ := known (mlE SQ F x m c1 c2) 14 1 4 rfl (by decide) (by omega)
      rw [h2]
      rw [mlE_get SQ F x m c1 c2 11 (by decide) (by omega)] <;> omega
    · show ((x + 1 + 5) % 256 < 256 → _ = (x + 1 + 5) % 256) ∧ ((x + 1 + 5) % 256 = 257 → _)
      refine ⟨fun hx => ?_, fun h => by omega⟩
      obtain ⟨h1, h2⟩ := known (mlE SQ F x m c1 c2) 15 1 5 rfl (by decide) (by omega)
      rw [h2]
      rw [mlE_get SQ F x m c1 c2 12 (by decide) (by omega)] <;> omega
    · show ((x + 1 + 6) % 256 < 256 → _ = (x + 1 + 6) % 256) ∧ ((x + 1 + 6) % 256 = 257 → _)
      refine ⟨fun hx => ?_, fun h => by omega⟩
      obtain ⟨h1, h2⟩ := known (mlE SQ F x m c1 c2) 16 1 6 rfl (by decide) (by omega)
      rw [h2]
      rw [mlE_get SQ F x m c1 c2 13 (by decide) (by omega)] <;> omega
    · show (257 < 256 → _) ∧ (257 = 257 → _)
      exact ⟨fun h => by omega, fun _ => parity _ 17 1 rfl (by omega)⟩
    · show ((x + 8) % 256 < 256 → _ = (x + 8) % 256) ∧ ((x + 8) % 256 = 257 → _)
      refine ⟨fun hx => ?_, fun h => by omega⟩
      obtain ⟨h1, h2⟩ := known (mlE SQ F x m c1 c2) 18 2 0 rfl (by decide) (by omega)
      rw [h2]
      rw [mlE_get SQ F x m c1 c2 14 (by decide) (by omega)] <;> omega
    · show ((x + 8 + 1) % 256 < 256 → _ = (x + 8 + 1) % 256) ∧ ((x + 8 + 1) % 256 = 257 → _)
      refine ⟨fun hx => ?_, fun h => by omega⟩
      obtain ⟨h1, h2⟩ := known (mlE SQ F x m c1 c2) 19 2 1 rfl (by decide) (by omega)
      rw [h2]
      rw [mlE_get SQ F x m c1 c2 15 (by decide) (by omega)] <;> omega
    · show ((x + 8 + 2) % 256 < 256 → _ = (x + 8 + 2) % 256) ∧ ((x + 8 + 2) % 256 = 257 → _)
      refine ⟨fun hx => ?_, fun h => by omega⟩
      obtain ⟨h1, h2⟩ := known (mlE SQ F x m c1 c2) 20 2 2 rfl (by decide) (by omega)
      rw [h2]
      rw [mlE_get SQ F x m c1 c2 16 (by decide) (by omega)] <;> omega
    · show ((x + 8 + 3) % 256 < 256 → _ = (x + 8 + 3) % 256) ∧ ((x + 8 + 3) % 256 = 257 → _)
      refine ⟨fun hx => ?_, fun h => by omega⟩
      obtain ⟨h1, h2⟩ := known (mlE SQ F x m c1 c2) 21 2 3 rfl (by decide) (by omega)
      rw [h2]
      rw [mlE_get SQ F x m c1 c2 17 (by decide) (by omega)] <;> omega
    · show ((x + 8 + 4) % 256 < 256 → _ = (x + 8 + 4) % 256) ∧ ((x + 8 + 4) % 256 = 257 → _)
      refine ⟨fun hx => ?_, fun h => by omega⟩
      obtain ⟨h1, h2⟩ := known (mlE SQ F x m c1 c2) 22 2 4 rfl (by decide) (by omega)
      rw [h2]
      rw [mlE_get SQ F x m c1 c2 18 (by decide) (by omega)] <;> omega
    · show ((x + 8 + 5) % 256 < 256 → _ = (x + 8 + 5) % 256) ∧ ((x + 8 + 5) % 256 = 257 → _)
      refine ⟨fun hx => ?_, fun h => by omega⟩
      obtain ⟨h1, h2⟩ := known (mlE SQ F x m c1 c2) 23 2 5 rfl (by decide) (by omega)
      rw [h2]
      rw [mlE_get SQ F x m c1 c2 19 (by decide) (by omega)] <;> omega
    · show ((x + 8 + 6) % 256 < 256 → _ = (x + 8 + 6) % 256) ∧ ((x + 8 + 6) % 256 = 257 → _)
      refine ⟨fun hx => ?_, fun h => by omega⟩
      obtain ⟨h1, h2⟩ := known (mlE SQ F x m c1 c2) 24 2 6 rfl (by decide) (by omega)
      rw [h2]
      rw [mlE_get SQ F x m c1 c2 20 (by decide) (by omega)] <;> omega
    · show (257 < 256 → _) ∧ (257 = 257 → _)
      exact ⟨fun h => by omega, fun _ => parity _ 25 2 rfl (by omega)⟩
  · have hn : (Fb.mlU F x).getD i 256 = 256 := by rw [List.getD_eq_getElem?_getD, List.getElem?_eq_none (by show 26 ≤ i; omega)]; rfl
    rw [hn]
    exact ⟨fun h => by omega, fun h => by omega⟩
theorem fo_match (SQ F Ch cl lh ll m : Nat) (c1 c2 : UInt8) (hF : F < 256) (hCh : Ch < 256) (hcl : cl < 256) (hlh : lh < 256) : Match (ub (foE SQ F Ch cl lh ll m c1 c2)) (Fb.foU F Ch cl lh) (8 * mN (foE SQ F Ch cl lh ll m c1 c2).length - 8) := by
  intro i hi
  have hl := foE_len SQ F Ch cl lh ll m c1 c2
  by_cases h34 : i < 34
  · have hi2 : i = 0 ∨ i = 1 ∨ i = 2 ∨ i = 3 ∨ i = 4 ∨ i = 5 ∨ i = 6 ∨ i = 7 ∨ i = 8 ∨ i = 9 ∨ i = 10 ∨ i = 11 ∨ i = 12 ∨ i = 13 ∨ i = 14 ∨ i = 15 ∨ i = 16 ∨ i = 17 ∨ i = 18 ∨ i = 19 ∨ i = 20 ∨ i = 21 ∨ i = 22 ∨ i = 23 ∨ i = 24 ∨ i = 25 ∨ i = 26 ∨ i = 27 ∨ i = 28 ∨ i = 29 ∨ i = 30 ∨ i = 31 ∨ i = 32 ∨ i = 33 := by omega
    rcases hi2 with rfl | rfl | rfl | rfl | rfl | rfl | rfl | rfl | rfl | rfl | rfl | rfl | rfl | rfl | rfl | rfl | rfl | rfl | rfl | rfl | rfl | rfl | rfl | rfl | rfl | rfl | rfl | rfl | rfl | rfl | rfl | rfl | rfl | rfl
    · show (235 < 256 → _ = 235) ∧ (235 = 257 → _)
      exact ⟨fun _ => (ub_0 _).1, fun h => by omega⟩
    · show (144 < 256 → _ = 144) ∧ (144 = 257 → _)
      exact ⟨fun _ => (ub_0 _).2, fun h => by omega⟩
    · show (0 < 256 → _ = 0) ∧ (0 = 257 → _)
      refine ⟨fun hx => ?_, fun h => by omega⟩
      obtain ⟨h1, h2⟩ := known (foE SQ F Ch cl lh ll m c1 c2) 2 0 0 rfl (by decide) (by omega)
      rw [h2]
      rfl
    · show (1 < 256 → _ = 1) ∧ (1 = 257 → _)
      refine ⟨fun hx => ?_, fun h => by omega⟩
      obtain ⟨h1, h2⟩ := known (foE SQ F Ch cl lh ll m c1 c2) 3 0 1 rfl (by decide) (by omega)
      rw [h2]
      rfl
    · show (0 < 256 → _ = 0) ∧ (0 = 257 → _)
      refine ⟨fun hx => ?_, fun h => by omega⟩
      obtain ⟨h1, h2⟩ := known (foE SQ F Ch cl lh ll m c1 c2) 4 0 2 rfl (by decide) (by omega)
      rw [h2]
      rfl
    · show (256 < 256 → _) ∧ (256 = 257 → _)
      exact ⟨fun h => by omega, fun h => by omega⟩
    · show (256 < 256 → _) ∧ (256 = 257 → _)
      exact ⟨fun h => by omega, fun h => by omega⟩
    · show (F < 256 → _ = F) ∧ (F = 257 → _)
      refine ⟨fun hx => ?_, fun h => by omega⟩
      obtain ⟨h1, h2⟩ := known (foE SQ F Ch cl lh ll m c1 c2) 7 0 5 rfl (by decide) (by omega)
      rw [h2]
      show (UInt8.ofNat F).toNat = F; simp; omega
    · show (16 < 256 → _ = 16) ∧ (16 = 257 → _)
      refine ⟨fun hx => ?_, fun h => by omega⟩
      obtain ⟨h1, h2⟩ := known (foE SQ F Ch cl lh ll m c1 c2) 8 0 6 rfl (by decide) (by omega)
      rw [h2]
      rfl
    · show (257 < 256 → _) ∧ (257 = 257 → _)
      exact ⟨fun h => by omega, fun _ => parity _ 9 0 rfl (by omega)⟩
    · show (0 < 256 → _ = 0) ∧ (0 = 257 → _)
      refine ⟨fun hx => ?_, fun h => by omega⟩
      obtain ⟨h1, h2⟩ := known (foE SQ F Ch cl lh ll m c1 c2) 10 1 0 rfl (by decide) (by omega)
      rw [h2]
      rfl
    · show (Ch < 256 → _ = Ch) ∧ (Ch = 257 → _)
      refine ⟨fun hx => ?_, fun h => by omega⟩
      obtain ⟨h1, h2⟩ := known (foE SQ F Ch cl lh ll m c1 c2) 11 1 1 rfl (by decide) (by omega)
      rw [h2]
      show (UInt8.ofNat Ch).toNat = Ch; simp; omega
    · show (cl < 256 → _ = cl) ∧ (cl = 257 → _)
      refine ⟨fun hx => ?_, fun h => by omega⟩
      obtain ⟨h1, h2⟩ := known (foE SQ F Ch cl lh ll m c1 c2) 12 1 2 rfl (by decide) (by omega)
      rw [h2]
      show (UInt8.ofNat cl).toNat = cl; simp; omega
    · show (lh < 256 → _ = lh) ∧ (lh = 257 → _)
      refine ⟨fun hx => ?_, fun h => by omega⟩
      obtain ⟨h1, h2⟩ := known (foE SQ F Ch cl lh ll m c1 c2) 13 1 3 rfl (by decide) (by omega)
      rw [h2]
      show (UInt8.ofNat lh).toNat = lh; simp; omega
    · show (256 < 256 → _) ∧ (256 = 257 → _)
      exact ⟨fun h => by omega, fun h => by omega⟩
    · show (cl < 256 → _ = cl) ∧ (cl = 257 → _)
      refine ⟨fun hx => ?_, fun h => by omega⟩
      obtain ⟨h1, h2⟩ := known (foE SQ F Ch cl lh ll m c1 c2) 15 1 5 rfl (by decide) (by omega)
      rw [h2]
      rw [foE_get SQ F Ch cl lh ll m c1 c2 12 (by decide) (by omega)] <;> omega
    · show ((cl + 1) % 256 < 256 → _ = (cl + 1) % 256) ∧ ((cl + 1) % 256 = 257 → _)
      refine ⟨fun hx => ?_, fun h => by omega⟩
      obtain ⟨h1, h2⟩ := known (foE SQ F Ch cl lh ll m c1 c2) 16 1 6 rfl (by decide) (by omega)
      rw [h2]
      rw [foE_get SQ F Ch cl lh ll m c1 c2 13 (by decide) (by omega)] <;> omega
    · show (257 < 256 → _) ∧ (257 = 257 → _)
      exact ⟨fun h => by omega, fun _ => parity _ 17 1 rfl (by omega)⟩
    · show ((cl + 2) % 256 < 256 → _ = (cl + 2) % 256) ∧ ((cl + 2) % 256 = 257 → _)
      refine ⟨fun hx => ?_, fun h => by omega⟩
      obtain ⟨h1, h2⟩ := known (foE SQ F Ch cl lh ll m c1 c2) 18 2 0 rfl (by decide) (by omega)
      rw [h2]
      rw [foE_get SQ F Ch cl lh ll m c1 c2 14 (by decide) (by omega)] <;> omega
    · show ((cl + 2 + 1) % 256 < 256 → _ = (cl + 2 + 1) % 256) ∧ ((cl + 2 + 1) % 256 = 257 → _)
      refine ⟨fun hx => ?_, fun h => by omega⟩
      obtain ⟨h1, h2⟩ := known (foE SQ F Ch cl lh ll m c1 c2) 19 2 1 rfl (by decide) (by omega)
      rw [h2]
      rw [foE_get SQ F Ch cl lh ll m c1 c2 15 (by decide) (by omega)] <;> omega
    · show ((cl + 2 + 2) % 256 < 256 → _ = (cl + 2 + 2) % 256) ∧ ((cl + 2 + 2) % 256 = 257 → _)
      refine ⟨fun hx => ?_, fun h => by omega⟩
      obtain ⟨h1, h2⟩ := known (foE SQ F Ch cl lh ll m c1 c2) 20 2 2 rfl (by decide) (by omega)
      rw [h2]
      rw [foE_get SQ F Ch cl lh ll m c1 c2 16 (by decide) (by omega)] <;> omega
    · show ((cl + 2 + 3) % 256 < 256 → _ = (cl + 2 + 3) % 256) ∧ ((cl + 2 + 3) % 256 = 257 → _)
      refine ⟨fun hx => ?_, fun h => by omega⟩
      obtain ⟨h1, h2⟩ := known (foE SQ F Ch cl lh ll m c1 c2) 21 2 3 rfl (by decide) (by omega)
      rw [h2]
      rw [foE_get SQ F Ch cl lh ll m c1 c2 17 (by decide) (by omega)] <;> omega
    · show ((cl + 2 + 4) % 256 < 256 → _ = (cl + 2 + 4) % 256) ∧ ((cl + 2 + 4) % 256 = 257 → _)
      refine ⟨fun hx => ?_, fun h => by omega⟩
      obtain ⟨h1, h2⟩ := known (foE SQ F Ch cl lh ll m c1 c2) 22 2 4 rfl (by decide) (by omega)
      rw [h2]
      rw [foE_get SQ F Ch cl lh ll m c1 c2 18 (by decide) (by omega)] <;> omega
    · show ((cl + 2 + 5) % 256 < 256 → _ = (cl + 2 + 5) % 256) ∧ ((cl + 2 + 5) % 256 = 257 → _)
      refine ⟨fun hx => ?_, fun h => by omega⟩
      obtain ⟨h1, h2⟩ := known (foE SQ F Ch cl lh ll m c1 c2) 23 2 5 rfl (by decide) (by omega)
      rw [h2]
      rw [foE_get SQ F Ch cl lh ll m c1 c2 19 (by decide) (by omega)] <;> omega
    · show ((cl + 2 + 6) % 256 < 256 → _ = (cl + 2 + 6) % 256) ∧ ((cl + 2 + 6) % 256 = 257 → _)
      refine ⟨fun hx => ?_, fun h => by omega⟩
      obtain ⟨h1, h2⟩ := known (foE SQ F Ch cl lh ll m c1 c2) 24 2 6 rfl (by decide) (by omega)
      rw [h2]
      rw [foE_get SQ F Ch cl lh ll m c1 c2 20 (by decide) (by omega)] <;> omega
    · show (257 < 256 → _) ∧ (257 = 257 → _)
      exact ⟨fun h => by omega, fun _ => parity _ 25 2 rfl (by omega)⟩
    · show ((cl + 9) % 256 < 256 → _ = (cl + 9) % 256) ∧ ((cl + 9) % 256 = 257 → _)
      refine ⟨fun hx => ?_, fun h => by omega⟩
      obtain ⟨h1, h2⟩ := known (foE SQ F Ch cl lh ll m c1 c2) 26 3 0 rfl (by decide) (by omega)
      rw [h2]
      rw [foE_get SQ F Ch cl lh ll m c1 c2 21 (by decide) (by omega)] <;> omega
    · show ((cl + 9 + 1) % 256 < 256 → _ = (cl + 9 + 1) % 256) ∧ ((cl + 9 + 1) % 256 = 257 → _)
      refine ⟨fun hx => ?_, fun h => by omega⟩
      obtain ⟨h1, h2⟩ := known (foE SQ F Ch cl lh ll m c1 c2) 27 3 1 rfl (by decide) (by omega)
      rw [h2]
      rw [foE_get SQ F Ch cl lh ll m c1 c2 22 (by decide) (by omega)] <;> omega
    · show ((cl + 9 + 2) % 256 < 256 → _ = (cl + 9 + 2) % 256) ∧ ((cl + 9 + 2) % 256 = 257 → _)
      refine ⟨fun hx => ?_, fun h => by omega⟩
      obtain ⟨h1, h2⟩ := known (foE SQ F Ch cl lh ll m c1 c2) 28 3 2 rfl (by decide) (by omega)
      rw [h2]
      rw [foE_get SQ F Ch cl lh ll m c1 c2 23 (by decide) (by omega)] <;> omega
    · show ((cl + 9 + 3) % 256 < 256 → _ = (cl + 9 + 3) % 256) ∧ ((cl + 9 + 3) % 256 = 257 → _)
      refine ⟨fun hx => ?_, fun h => by omega⟩
      obtain ⟨h1, h2⟩ := known (foE SQ F Ch cl lh ll m c1 c2) 29 3 3 rfl (by decide) (by omega)
      rw [h2]
      rw [foE_get SQ F Ch cl lh ll m c1 c2 24 (by decide) (by omega)] <;> omega
    · show ((cl + 9 + 4) % 256 < 256 → _ = (cl + 9 + 4) % 256) ∧ ((cl + 9 + 4) % 256 = 257 → _)
      refine ⟨fun hx => ?_, fun h => by omega⟩
      obtain ⟨h1, h2⟩ := known (foE SQ F Ch cl lh ll m c1 c2) 30 3 4 rfl (by decide) (by omega)
      rw [h2]
      rw [foE_get SQ F Ch cl lh ll m c1 c2 25 (by decide) (by omega)] <;> omega
    · show ((cl + 9 + 5) % 256 < 256 → _ = (cl + 9 + 5) % 256) ∧ ((cl + 9 + 5) % 256 = 257 → _)
      refine ⟨fun hx => ?_, fun h => by omega⟩
      obtain ⟨h1, h2⟩ := known (foE SQ F Ch cl lh ll m c1 c2) 31 3 5 rfl (by decide) (by omega)
      rw [h2]
      rw [foE_get SQ F Ch cl lh ll m c1 c2 26 (by decide) (by omega)] <;> omega
    · show ((cl + 9 + 6) % 256 < 256 → _ = (cl + 9 + 6) % 256) ∧ ((cl + 9 + 6) % 256 = 257 → _)
      refine ⟨fun hx => ?_, fun h => by omega⟩
      obtain ⟨h1, h2⟩ := known (foE SQ F Ch cl lh ll m c1 c2) 32 3 6 rfl (by decide) (by omega)
      rw [h2]
      rw [foE_get SQ F Ch cl lh ll m c1 c2 27 (by decide) (by omega)] <;> omega
    · show (257 < 256 → _) ∧ (257 = 257 → _)
      exact ⟨fun h => by omega, fun _ => parity _ 33 3 rfl (by omega)⟩
  · have hn : (Fb.foU F Ch cl lh).getD i 256 = 256 := by rw [List.getD_eq_getElem?_getD, List.getElem?_eq_none (by show 34 ≤ i; omega)]; rfl
    rw [hn]
    exact ⟨fun h => by omega, fun h => by omega⟩
theorem ram_match (e : List UInt8) (y B : Nat) (hr : ∀ i, 7 * B ≤ i → i + 3 ≤ e.length → (e.getD i 0).toNat = (y + (i - 7 * B)) % 256) : Match (fun i => ub e (2 + (8 * B + i))) (Fb.ramU y) (8 * mN e.length - 10 - 8 * B) := by
  intro i hi
  by_cases h24 : i < 24
  · have hi2 : i = 0 ∨ i = 1 ∨ i = 2 ∨ i = 3 ∨ i = 4 ∨ i = 5 ∨ i = 6 ∨ i = 7 ∨ i = 8 ∨ i = 9 ∨ i = 10 ∨ i = 11 ∨ i = 12 ∨ i = 13 ∨ i = 14 ∨ i = 15 ∨ i = 16 ∨ i = 17 ∨ i = 18 ∨ i = 19 ∨ i = 20 ∨ i = 21 ∨ i = 22 ∨ i = 23 := by omega
    rcases hi2 with rfl | rfl | rfl | rfl | rfl | rfl | rfl | rfl | rfl | rfl | rfl | rfl | rfl | rfl | rfl | rfl | rfl | rfl | rfl | rfl | rfl | rfl | rfl | rfl
    · show ((y) % 256 < 256 → _ = (y) % 256) ∧ ((y) % 256 = 257 → _)
      refine ⟨fun hx => ?_, fun h => by omega⟩
      obtain ⟨h1, h2⟩ := known e (2 + (8 * B + 0)) (B + 0) 0 (by omega) (by decide) (by omega)
      show ub e (2 + (8 * B + 0)) = _
      rw [h2, hr _ (by omega) (by omega)] <;> omega
    · show ((y + 1) % 256 < 256 → _ = (y + 1) % 256) ∧ ((y + 1) % 256 = 257 → _)
      refine ⟨fun hx => ?_, fun h => by omega⟩
      obtain ⟨h1, h2⟩ := known e (2 + (8 * B + 1)) (B + 0) 1 (by omega) (by decide) (by omega)
      show ub e (2 + (8 * B + 1)) = _
      rw [h2, hr _ (by omega) (by omega)] <;> omega
    · show ((y + 2) % 256 < 256 → _ = (y + 2) % 256) ∧ ((y + 2) % 256 = 257 → _)
      refine ⟨fun hx => ?_, fun h => by omega⟩
      obtain ⟨h1, h2⟩ := known e (2 + (8 * B + 2)) (B + 0) 2 (by omega) (by decide) (by omega)
      show ub e (2 + (8 * B + 2)) = _
      rw [h2, hr _ (by omega) (by omega)] <;> omega
    · show ((y + 3) % 256 < 256 → _ = (y + 3) % 256) ∧ ((y + 3) % 256 = 257 → _)
      refine ⟨fun hx => ?_, fun h => by omega⟩
      obtain ⟨h1, h2⟩ := known e (2 + (8 * B + 3)) (B + 0) 3 (by omega) (by decide) (by omega)
      show ub e (2 + (8 * B + 3)) = _
      rw [h2, hr _ (by omega) (by omega)] <;> omega
    · show ((y + 4) % 256 < 256 → _ = (y + 4) % 256) ∧ ((y + 4) % 256 = 257 → _)
      refine ⟨fun hx => ?_, fun h => by omega⟩
      obtain ⟨h1, h2⟩ := known e (2 + (8 * B + 4)) (B + 0) 4 (by omega) (by decide) (by omega)
      show ub e (2 + (8 * B + 4)) = _
      rw [h2, hr _ (by omega) (by omega)] <;> omega
    · show ((y + 5) % 256 < 256 → _ = (y + 5) % 256) ∧ ((y + 5) % 256 = 257 → _)
      refine ⟨fun hx => ?_, fun h => by omega⟩
      obtain ⟨h1, h2⟩ := known e (2 + (8 * B + 5)) (B + 0) 5 (by omega) (by decide) (by omega)
      show ub e (2 + (8 * B + 5)) = _
      rw [h2, hr _ (by omega) (by omega)] <;> omega
    · show ((y + 6) % 256 < 256 → _ = (y + 6) % 256) ∧ ((y + 6) % 256 = 257 → _)
      refine ⟨fun hx => ?_, fun h => by omega⟩
      obtain ⟨h1, h2⟩ := known e (2 + (8 * B + 6)) (B + 0) 6 (by omega) (by decide) (by omega)
      show ub e (2 + (8 * B + 6)) = _
      rw [h2, hr _ (by omega) (by omega)] <;> omega
    · show (257 < 256 → _) ∧ (257 = 257 → _)
      exact ⟨fun h => by omega, fun _ => parity _ _ (B + 0) (by omega) (by omega)⟩
    · show ((y + 7) % 256 < 256 → _ = (y + 7) % 256) ∧ ((y + 7) % 256 = 257 → _)
      refine ⟨fun hx => ?_, fun h => by omega⟩
      obtain ⟨h1, h2⟩ := known e (2 + (8 * B + 8)) (B + 1) 0 (by omega) (by decide) (by omega)
      show ub e (2 + (8 * B + 8)) = _
      rw [h2, hr _ (by omega) (by omega)] <;> omega
    · show ((y + 7 + 1) % 256 < 256 → _ = (y + 7 + 1) % 256) ∧ ((y + 7 + 1) % 256 = 257 → _)
      refine ⟨fun hx => ?_, fun h => by omega⟩
      obtain ⟨h1, h2⟩ := known e (2 + (8 * B + 9)) (B + 1) 1 (by omega) (by decide) (by omega)
      show ub e (2 + (8 * B + 9)) = _
      rw [h2, hr _ (by omega) (by omega)] <;> omega
    · show ((y + 7 + 2) % 256 < 256 → _ = (y + 7 + 2) % 256) ∧ ((y + 7 + 2) % 256 = 257 → _)
      refine ⟨fun hx => ?_, fun h => by omega⟩
      obtain ⟨h1, h2⟩ := known e (2 + (8 * B + 10)) (B + 1) 2 (by omega) (by decide) (by omega)
      show ub e (2 + (8 * B + 10)) = _
      rw [h2, hr _ (by omega) (by omega)] <;> omega
    · show ((y + 7 + 3) % 256 < 256 → _ = (y + 7 + 3) % 256) ∧ ((y + 7 + 3) % 256 = 257 → _)
      refine ⟨fun hx => ?_, fun h => by omega⟩
      obtain ⟨h1, h2⟩ := known e (2 + (8 * B + 11)) (B + 1) 3 (by omega) (by decide) (by omega)
      show ub e (2 + (8 * B + 11)) = _
      rw [h2, hr _ (by omega) (by omega)] <;> omega
    · show ((y + 7 + 4) % 256 < 256 → _ = (y + 7 + 4) % 256) ∧ ((y + 7 + 4) % 256 = 257 → _)
      refine ⟨fun hx => ?_, fun h => by omega⟩
      obtain ⟨h1, h2⟩ := known e (2 + (8 * B + 12)) (B + 1) 4 (by omega) (by decide) (by omega)
      show ub e (2 + (8 * B + 12)) = _
      rw [h2, hr _ (by omega) (by omega)] <;> omega
    · show ((y + 7 + 5) % 256 < 256 → _ = (y + 7 + 5) % 256) ∧ ((y + 7 + 5) % 256 = 257 → _)
      refine ⟨fun hx => ?_, fun h => by omega⟩
      obtain ⟨h1, h2⟩ := known e (2 + (8 * B + 13)) (B + 1) 5 (by omega) (by decide) (by omega)
      show ub e (2 + (8 * B + 13)) = _
      rw [h2, hr _ (by omega) (by omega)] <;> omega
    · show ((y + 7 + 6) % 256 < 256 → _ = (y + 7 + 6) % 256) ∧ ((y + 7 + 6) % 256 = 257 → _)
      refine ⟨fun hx => ?_, fun h => by omega⟩
      obtain ⟨h1, h2⟩ := known e (2 + (8 * B + 14)) (B + 1) 6 (by omega) (by decide) (by omega)
      show ub e (2 + (8 * B + 14)) = _
      rw [h2, hr _ (by omega) (by omega)] <;> omega
    · show (257 < 256 → _) ∧ (257 = 257 → _)
      exact ⟨fun h => by omega, fun _ => parity _ _ (B + 1) (by omega) (by omega)⟩
    · show ((y + 14) % 256 < 256 → _ = (y + 14) % 256) ∧ ((y + 14) % 256 = 257 → _)
      refine ⟨fun hx => ?_, fun h => by omega⟩
      obtain ⟨h1, h2⟩ := known e (2 + (8 * B + 16)) (B + 2) 0 (by omega) (by decide) (by omega)
      show ub e (2 + (8 * B + 16)) = _
      rw [h2, hr _ (by omega) (by omega)] <;> omega
    · show ((y + 14 + 1) % 256 < 256 → _ = (y + 14 + 1) % 256) ∧ ((y + 14 + 1) % 256 = 257 → _)
      refine ⟨fun hx => ?_, fun h => by omega⟩
      obtain ⟨h1, h2⟩ := known e (2 + (8 * B + 17)) (B + 2) 1 (by omega) (by decide) (by omega)
      show ub e (2 + (8 * B + 17)) = _
      rw [h2, hr _ (by omega) (by omega)] <;> omega
    · show ((y + 14 + 2) % 256 < 256 → _ = (y + 14 + 2) % 256) ∧ ((y + 14 + 2) % 256 = 257 → _)
      refine ⟨fun hx => ?_, fun h => by omega⟩
      obtain ⟨h1, h2⟩ := known e (2 + (8 * B + 18)) (B + 2) 2 (by omega) (by decide) (by omega)
      show ub e (2 + (8 * B + 18)) = _
      rw [h2, hr _ (by omega) (by omega)] <;> omega
    · show ((y + 14 + 3) % 256 < 256 → _ = (y + 14 + 3) % 256) ∧ ((y + 14 + 3) % 256 = 257 → _)
      refine ⟨fun hx => ?_, fun h => by omega⟩
      obtain ⟨h1, h2⟩ := known e (2 + (8 * B + 19)) (B + 2) 3 (by omega) (by decide) (by omega)
      show ub e (2 + (8 * B + 19)) = _
      rw [h2, hr _ (by omega) (by omega)] <;> omega
    · show ((y + 14 + 4) % 256 < 256 → _ = (y + 14 + 4) % 256) ∧ ((y + 14 + 4) % 256 = 257 → _)
      refine ⟨fun hx => ?_, fun h => by omega⟩
      obtain ⟨h1, h2⟩ := known e (2 + (8 * B + 20)) (B + 2) 4 (by omega) (by decide) (by omega)
      show ub e (2 + (8 * B + 20)) = _
      rw [h2, hr _ (by omega) (by omega)] <;> omega
    · show ((y + 14 + 5) % 256 < 256 → _ = (y + 14 + 5) % 256) ∧ ((y + 14 + 5) % 256 = 257 → _)
      refine ⟨fun hx => ?_, fun h => by omega⟩
      obtain ⟨h1, h2⟩ := known e (2 + (8 * B + 21)) (B + 2) 5 (by omega) (by decide) (by omega)
      show ub e (2 + (8 * B + 21)) = _
      rw [h2, hr _ (by omega) (by omega)] <;> omega
    · show ((y + 14 + 6) % 256 < 256 → _ = (y + 14 + 6) % 256) ∧ ((y + 14 + 6) % 256 = 257 → _)
      refine ⟨fun hx => ?_, fun h => by omega⟩
      obtain ⟨h1, h2⟩ := known e (2 + (8 * B + 22)) (B + 2) 6 (by omega) (by decide) (by omega)
      show ub e (2 + (8 * B + 22)) = _
      rw [h2, hr _ (by omega) (by omega)] <;> omega
    · show (257 < 256 → _) ∧ (257 = 257 → _)
      exact ⟨fun h => by omega, fun _ => parity _ _ (B + 2) (by omega) (by omega)⟩
  · have hn : (Fb.ramU y).getD i 256 = 256 := by rw [List.getD_eq_getElem?_getD, List.getElem?_eq_none (by show 24 ≤ i; omega)]; rfl
    rw [hn]
    exact ⟨fun h => by omega, fun h => by omega⟩
end
section
open Go.RowKit
open Fb (pc)
/-- The parity of a block of which all bytes are known. -/
theorem par_exact (e : List UInt8) (B j v0 v1 v2 v3 v4 v5 v6 : Nat) (hj : j = 2 + (8 * B + 7)) (h : 7 * B + 7 ≤ e.length) (h0 : (e.getD (7 * B) 0).toNat = v0) (h1 : (e.getD (7 * B + 1) 0).toNat = v1) (h2 : (e.getD (7 * B + 2) 0).toNat = v2) (h3 : (e.getD (7 * B + 3) 0).toNat = v3) (h4 : (e.getD (7 * B + 4) 0).toNat = v4) (h5 : (e.getD (7 * B + 5) 0).toNat = v5) (h6 : (e.getD (7 * B + 6) 0).toNat = v6) :
    ub e j = Fb.parA [v0, v1, v2, v3, v4, v5, v6] := by
  subst hj
  have hmn : e.length ≤ 7 * mN e.length := by unfold mN; omega
  rw [(ub_blk e B (by unfold mN; omega)).2]
  have hp : ((padL e).drop (7 * B)).take 7 = (e.drop (7 * B)).take 7 := by
    unfold padL
    rw [List.drop_append_of_le_length (by omega), List.take_append_of_le_length (by rw [List.length_drop]; omega)]
  rw [hp, take_getD e (7 * B) 7 h]
  unfold Fb.parA
  rw [← remA_rem, ← h0, ← h1, ← h2, ← h3, ← h4, ← h5, ← h6]
  rfl
theorem cand_use (t b w5 w6 w7 w8 w9 LL SS FF D : Nat) (U : Nat → Nat) (hU : ∀ i, U i < 256) (hc : Fb.cand t b w5 w6 w7 w8 (fun LL SS FF D b => !Fb.ppB LL FF D || decide (t < b + Fb.pCost w9 LL SS FF D)) = true) (hp : PP LL SS FF D) (h5 : U 5 = w5) (h6 : U 6 = w6) (h7 : U 7 = w7) (h8 : U 8 = w8) (h9 : U 9 = w9)
    (hb : b ≤ pc (U 2) + pc (U 3 ^^^ 1) + pc (U 4)) : t < cB U LL SS FF D + Fb.pCost (U 9) LL SS FF D := by
  have x5 : U 5 ^^^ LL < 256 := Nat.xor_lt_two_pow (n := 8) (hU 5) (by have := hp.2.1; omega)
  have x6 : U 6 ^^^ SS < 256 := Nat.xor_lt_two_pow (n := 8) (hU 6) hp.2.2.1
  have x8 : U 8 ^^^ D < 256 := Nat.xor_lt_two_pow (n := 8) (hU 8) hp.2.2.2.1
  subst h5 h6 h7 h8 h9
  unfold cB
  by_cases hle : b + pc (U 7 ^^^ FF) + pc (U 5 ^^^ LL) + pc (U 8 ^^^ D) + pc (U 6 ^^^ SS) ≤ t
  · have hk := Fb.cand_spec hc LL SS FF D x5 x6 x8 hp.ff hle
    rw [hp.b] at hk
    have hk2 := of_decide_eq_true (by simpa using hk)
    omega
  · omega
/-- The aligned window. -/
theorem al_use (LL SS FF D : Nat) (U : Nat → Nat) (hU : ∀ i, U i < 256) (hp : PP LL SS FF D) (h0 : U 0 = 255) (h1 : U 1 % 2 = 0) (h2 : U 2 = 0) (h3 : U 3 = 1) (h4 : U 4 = 2) (h5 : U 5 = 3) (h6 : U 6 = 4) (h7 : U 7 = 5) (h8 : U 8 = 6) (h9 : U 9 = Fb.parA [0, 1, 2, 3, 4, 5, 6]) :
    5 ≤ (cS U - 1) + (cB U LL SS FF D + Fb.pCost (U 9) LL SS FF D - 1) := by
  have hc := cand_use 4 1 3 4 5 6 _ LL SS FF D U hU Fb.al_ok hp h5 h6 h7 h8 h9 (by rw [h2, h3, h4]; decide)
  have hs : 2 ≤ cS U := by
    unfold cS
    rw [h0]
    have : pc (255 ^^^ 235) = 2 := by decide
    omega
  omega
theorem ram_use (r y : Nat) (LL SS FF D : Nat) (U : Nat → Nat) (hU : ∀ i, U i < 256) (hp : PP LL SS FF D) (hr : r < 8) (hy : y < 256) (hm : Match U ((Fb.ramU y).drop r) 9) (h9 : r = 6 → y = 249 → U 9 = Fb.parA [0, 1, 2, 3, 4, 5, 6]) :
    5 ≤ (cS U - 1) + (cB U LL SS FF D + Fb.pCost (U 9) LL SS FF D - 1) := by
  have h := Fb.allB_spec (Fb.allB_spec Fb.ram_ok y hy) r hr
  simp only [Bool.or_eq_true, Bool.and_eq_true, beq_iff_eq, decide_eq_true_eq] at h
  rcases h with ⟨rfl, rfl⟩ | h
  · have m := fun i hi => hm i hi
    exact al_use LL SS FF D U hU hp ((m 0 (by decide)).1 (by decide)) ((m 1 (by decide)).2 (by decide)) ((m 2 (by decide)).1 (by decide)) ((m 3 (by decide)).1 (by decide)) ((m 4 (by decide)).1 (by decide)) ((m 5 (by decide)).1 (by decide)) ((m 6 (by decide)).1 (by decide)) ((m 7 (by decide)).1 (by decide)) ((m 8 (by decide)).1 (by decide)) (h9 rfl rfl)
  · have := lb_sound U _ hU hm LL SS FF D hp
    omega
/-- The second block's cost. -/
def c2 (U : Nat → Nat) (q : List Nat) : Nat := pc (U 10 ^^^ q.getD 0 0) + pc (U 11 ^^^ q.getD 1 0) + pc (U 12 ^^^ q.getD 2 0) + pc (U 13 ^^^ q.getD 3 0) + pc (U 14 ^^^ q.getD 4 0) + pc (U 15 ^^^ q.getD 5 0) + pc (U 16 ^^^ q.getD 6 0)
theorem sec_le (LL D : Nat) (U : Nat → Nat) (q W : List Nat) (hW : W = [U 10, U 11, U 12, U 13, U 14, U 15, U 16]) (hq : ∀ i, i < 7 → i + 9 ≤ LL → q.getD i 0 = (D + 1 + i) % 256) : Fb.sec LL D W ≤ c2 U q := by
  subst hW
  have h : ∀ i, i < 7 → ∀ v, (if i + 9 ≤ LL then pc (v ^^^ ((D + 1 + i) % 256)) else 0) ≤ pc (v ^^^ q.getD i 0) := by
    intro i hi v
    split
    · rename_i h; rw [hq i hi h]; exact Nat.le_refl _
    · exact Nat.zero_le _
  have h0 := h 0 (by decide) (U 10); have h1 := h 1 (by decide) (U 11); have h2 := h 2 (by decide) (U 12); have h3 := h 3 (by decide) (U 13); have h4 := h 4 (by decide) (U 14); have h5 := h 5 (by decide) (U 15); have h6 := h 6 (by decide) (U 16)
  have e : Fb.sec LL D [U 10, U 11, U 12, U 13, U 14, U 15, U 16] = 0 + (if 0 + 9 ≤ LL then pc (U 10 ^^^ ((D + 1 + 0) % 256)) else 0) + (if 1 + 9 ≤ LL then pc (U 11 ^^^ ((D + 1 + 1) % 256)) else 0) + (if 2 + 9 ≤ LL then pc (U 12 ^^^ ((D + 1 + 2) % 256)) else 0) + (if 3 + 9 ≤ LL then pc (U 13 ^^^ ((D + 1 + 3) % 256)) else 0) + (if 4 + 9 ≤ LL then pc (U 14 ^^^ ((D + 1 + 4) % 256)) else 0) + (if 5 + 9 ≤ LL then pc (U 15 ^^^ ((D + 1 + 5) % 256)) else 0) + (if 6 + 9 ≤ LL then pc (U 16 ^^^ ((D + 1 + 6) % 256)) else 0) := rfl
  unfold c2
  omega
/-- What is asked of a window: the frame p begins in it, M blocks of it lie there. -/
structure Asked (e : List UInt8) (o M : Nat) (LL SS FF D : Nat) (q : List Nat) : Prop where
  pp : PP LL SS FF D
  o1 : 1 ≤ o
  m2 : 2 ≤ M
  fit : o + 8 * M ≤ 8 * mN e.length
  short : LL + 1 ≤ 7 * M
  ramp : FF = 0 ∨ FF = 128 → ∀ i, i < 7 → i + 9 ≤ LL → q.getD i 0 = (D + 1 + i) % 256
  crc : FF = 128 → LL = 8 → ∀ s : BitVec 16, s = sum16 [0, 1, 0, 8, UInt8.ofNat SS, 128, UInt8.ofNat D] → q.getD 0 0 = s.toNat / 256 ∧ q.getD 1 0 = s.toNat % 256
  head : FF = 64 ∨ FF = 192 → q.getD 0 0 = 0 ∧ q.getD 3 0 ≤ 1 ∧ q.getD 2 0 = q.getD 5 0 ∧ q.getD 2 0 < 256
  cost : (cS (fun i => ub e (o + i)) - 1) + (cB (fun i => ub e (o + i)) LL SS FF D + Fb.pCost (ub e (o + 9)) LL SS FF D - 1) + (c2 (fun i => ub e (o + i)) q - 1) ≤ 4
theorem Asked.low {e : List UInt8} {o M LL SS FF D : Nat} {q : List Nat} (h : Asked e o M LL SS FF D q) (hM : M = 2) : FF = 128 ∧ LL ≤ 13 := by
  have h1 := h.short
  have h2 := h.pp.2.2.2.2
  rcases h2 with h2 | h2 | h2 | h2 <;> omega
/-- Behind the first blocks all is ramp. -/
theorem deep {e : List UInt8} {o M LL SS FF D : Nat} {q : List Nat} (h : Asked e o M LL SS FF D q) (B r y : Nat) (ho : o = 2 + (8 * B + r)) (hr : r < 8) (hy : y < 256) (hR : ∀ i, 7 * B ≤ i → i + 3 ≤ e.length → (e.getD i 0).toNat = (y + (i - 7 * B)) % 256) : False := by
  have hfit := h.fit; have hm2 := h.m2
  have hm := (ram_match e y B hR).drop r
  have hU : ∀ i, ub e (o + i) < 256 := fun i => ub_lt e _
  have hm9 : ∀ n, n + r + 10 + 8 * B ≤ 8 * mN e.length → Match (fun i => ub e (o + i)) ((Fb.ramU y).drop r) n := by
    intro n hn i hi
    have := hm i (by omega)
    simpa only [ho, Nat.add_assoc] using this
  by_cases hM : M = 2
  · obtain ⟨rfl, hL⟩ := h.low hM
    have hk := Fb.allB_spec (Fb.allB_spec Fb.ram_s y hy) r hr
    simp only [decide_eq_true_eq] at hk
    have h3 := lbS_sound _ _ hU (hm9 8 (by omega)) LL SS D h.pp.1 hL
    have := h.cost
    omega
  · have h3 := ram_use r y LL SS FF D _ hU h.pp hr hy (hm9 9 (by omega)) (fun h6 hy2 => by
      refine par_exact e (B + 1) _ 0 1 2 3 4 5 6 (by omega) (by unfold mN at hfit; omega) ?_ ?_ ?_ ?_ ?_ ?_ ?_ <;> (rw [hR _ (by omega) (by unfold mN at hfit; omega)]; omega))
    have := h.cost
    omega
end
section
open Go.RowKit
open Fb (pc)
theorem match9 {e : List UInt8} {W : List Nat} {N o n : Nat} (hm : Match (ub e) W N) (h : o + n ≤ N) : Match (fun i => ub e (o + i)) (W.drop o) n := by
  intro i hi
  exact (hm.drop o) i (by omega)
theorem cB_le (U : Nat → Nat) (LL SS FF D b : Nat) (hb : b ≤ pc (U 2) + pc (U 3 ^^^ 1) + pc (U 4)) : b + pc (U 7 ^^^ FF) + pc (U 5 ^^^ LL) + pc (U 8 ^^^ D) + pc (U 6 ^^^ SS) ≤ cB U LL SS FF D := by unfold cB; omega
theorem odd_pc (v : Nat) (hv : v < 256) (h : v % 2 = 0) : 1 ≤ pc (v ^^^ 1) := even_pc v hv 1 (by decide) h
section
variable {SQ F x m : Nat} {c1 c2' : UInt8} {o M LL SS FF D : Nat} {q : List Nat}
theorem ml_case6 (hF : F = 0 ∨ F = 1) (hx : x < 256) (h : Asked (mlE SQ (128 * F) x m c1 c2') 6 M LL SS FF D q) (hc : (F, x) ∈ [(0, 0), (1, 0), (1, 128)]) : False := by
  have hfit := h.fit; have hm2 := h.m2
  have hU : ∀ i, ub (mlE SQ (128 * F) x m c1 c2') (6 + i) < 256 := fun i => ub_lt _ _
  have hm := match9 (o := 6) (n := 10) (ml_match SQ (128 * F) x m c1 c2' (by omega)) (by omega)
  have hk := List.all_eq_true.1 Fb.ml6_ok (F, x) hc
  simp only at hk
  have g1 := (hm 1 (by decide)).1 (show 128 * F < 256 by omega)
  have g2 := (hm 2 (by decide)).1 (show x % 256 < 256 by omega)
  have g3 := (hm 3 (by decide)).2 rfl
  have g4 := (hm 4 (by decide)).1 (show (x + 1) % 256 < 256 by omega)
  have g5 := (hm 5 (by decide)).1 (show (x + 1 + 1) % 256 < 256 by omega)
  have g6 := (hm 6 (by decide)).1 (show (x + 1 + 2) % 256 < 256 by omega)
  have g7 := (hm 7 (by decide)).1 (show (x + 1 + 3) % 256 < 256 by omega)
  have g8 := (hm 8 (by decide)).1 (show (x + 1 + 4) % 256 < 256 by omega)
  have g9 := (hm 9 (by decide)).1 (show (x + 1 + 5) % 256 < 256 by omega)
  have hx3 : x = 0 ∨ x = 128 := by
    simp at hc; omega
  have e2 : ub (mlE SQ (128 * F) x m c1 c2') (6 + 2) = x := g2.trans (show x % 256 = x by omega)
  have e4 : ub (mlE SQ (128 * F) x m c1 c2') (6 + 4) = x + 1 := g4.trans (show (x + 1) % 256 = x + 1 by omega)
  have e1 : ub (mlE SQ (128 * F) x m c1 c2') (6 + 1) = 128 * F := g1
  have hs : pc ((128 * F) ^^^ 144) ≤ cS (fun i => ub (mlE SQ (128 * F) x m c1 c2') (6 + i)) := by
    unfold cS
    show _ ≤ _ + pc (ub _ (6 + 1) ^^^ 144)
    rw [e1]; omega
  have h3 := odd_pc _ (hU 3) g3
  have hu := cand_use _ _ _ _ _ _ (x + 6) LL SS FF D (fun i => ub (mlE SQ (128 * F) x m c1 c2') (6 + i)) hU hk h.pp (g5.trans (show (x + 1 + 1) % 256 = x + 2 by omega)) (g6.trans (show (x + 1 + 2) % 256 = x + 3 by omega)) (g7.trans (show (x + 1 + 3) % 256 = x + 4 by omega)) (g8.trans (show (x + 1 + 4) % 256 = x + 5 by omega)) (g9.trans (show (x + 1 + 5) % 256 = x + 6 by omega)) (by
    show _ ≤ pc (ub _ (6 + 2)) + _ + pc (ub _ (6 + 4))
    rw [e2, e4]; omega)
  have hcost := h.cost
  have hb : Fb.pCost (ub (mlE SQ (128 * F) x m c1 c2') (6 + 9)) LL SS FF D = Fb.pCost ((fun i => ub (mlE SQ (128 * F) x m c1 c2') (6 + i)) 9) LL SS FF D := rfl
  rw [hb] at hcost
  omega
theorem ml_case5 (hF : F = 0 ∨ F = 1) (hx : x < 256) (h : Asked (mlE SQ (128 * F) x m c1 c2') 5 M LL SS FF D q) : False := by
  have hfit := h.fit; have hm2 := h.m2
  have hU : ∀ i, ub (mlE SQ (128 * F) x m c1 c2') (5 + i) < 256 := fun i => ub_lt _ _
  have hm := match9 (o := 5) (n := 10) (ml_match SQ (128 * F) x m c1 c2' (by omega)) (by omega)
  have hk := Fb.allB_spec (Fb.allB_spec Fb.ml5_ok F (by omega)) x hx
  simp only [Bool.or_eq_true, decide_eq_true_eq] at hk
  have g2 := (hm 2 (by decide)).1 (show 128 * F < 256 by omega)
  have g3 := (hm 3 (by decide)).1 (show x % 256 < 256 by omega)
  have g5 := (hm 5 (by decide)).1 (show (x + 1) % 256 < 256 by omega)
  have g6 := (hm 6 (by decide)).1 (show (x + 1 + 1) % 256 < 256 by omega)
  have g7 := (hm 7 (by decide)).1 (show (x + 1 + 2) % 256 < 256 by omega)
  have g8 := (hm 8 (by decide)).1 (show (x + 1 + 3) % 256 < 256 by omega)
  have g9 := (hm 9 (by decide)).1 (show (x + 1 + 4) % 256 < 256 by omega)
  obtain ⟨U, hUe⟩ : ∃ U : Nat → Nat, U = fun i => ub (mlE SQ (128 * F) x m c1 c2') (5 + i) := ⟨_, rfl⟩
  have w5 : U 5 = Fb.r8 (x + 1) := by rw [hUe]; exact g5
  have w6 : U 6 = Fb.r8 (x + 2) := by rw [hUe]; exact g6
  have w7 : U 7 = Fb.r8 (x + 3) := by rw [hUe]; exact g7
  have w8 : U 8 = Fb.r8 (x + 4) := by rw [hUe]; exact g8
  have w9 : U 9 = Fb.r8 (x + 5) := by rw [hUe]; exact g9
  have e2 : U 2 = 128 * F := by rw [hUe]; exact g2
  have e3 : U 3 = x := by rw [hUe]; exact g3.trans (show x % 256 = x by omega)
  have hU' : ∀ i, U i < 256 := fun i => by rw [hUe]; exact hU i
  have hcost := h.cost
  rw [← hUe, show ub (mlE SQ (128 * F) x m c1 c2') (5 + 9) = U 9 by rw [hUe]] at hcost
  have hbb : pc (128 * F) + pc (x ^^^ 1) ≤ pc (U 2) + pc (U 3 ^^^ 1) + pc (U 4) := by rw [e2, e3]; omega
  have hle := cB_le U LL SS FF D _ hbb
  have h5 : 5 < pc (128 * F) + pc (x ^^^ 1) → False := fun hlt => by omega
  rcases hk with hk | hk
  · exact h5 hk
  have x5 : U 5 ^^^ LL < 256 := Nat.xor_lt_two_pow (n := 8) (hU' 5) (by have := h.pp.2.1; omega)
  have x6 : U 6 ^^^ SS < 256 := Nat.xor_lt_two_pow (n := 8) (hU' 6) h.pp.2.2.1
  have x8 : U 8 ^^^ D < 256 := Nat.xor_lt_two_pow (n := 8) (hU' 8) h.pp.2.2.2.1
  rw [← w5, ← w6, ← w7, ← w8, ← w9] at hk
  have hk2 := Fb.cand_spec hk LL SS FF D x5 x6 x8 h.pp.ff (by omega)
  rw [h.pp.b] at hk2
  simp only [Bool.not_true, Bool.false_or, Bool.or_eq_true, Bool.and_eq_true, beq_iff_eq, decide_eq_true_eq] at hk2
  rcases hk2 with hk2 | ⟨⟨hff, h14⟩, hk2⟩
  · omega
  · have hM : M ≠ 2 := fun hM => by have := (h.low hM).2; omega
    have hl := mlE_len SQ (128 * F) x m c1 c2'
    have hmN : 8 * mN (mlE SQ (128 * F) x m c1 c2').length ≤ 8 * ((m + 14) / 7) := by rw [hl]; unfold mN; omega
    have hm17 := match9 (o := 5) (n := 17) (ml_match SQ (128 * F) x m c1 c2' (by omega)) (by omega)
    have k := fun i hi => (hm17 i hi).1
    have v10 : U 10 = Fb.r8 (x + 6) := by rw [hUe]; exact k 10 (by decide) (show (x + 1 + 5) % 256 < 256 by omega)
    have v11 : U 11 = Fb.r8 (x + 7) := by rw [hUe]; exact k 11 (by decide) (show (x + 1 + 6) % 256 < 256 by omega)
    have v13 : U 13 = Fb.r8 (x + 8) := by rw [hUe]; exact k 13 (by decide) (show (x + 8) % 256 < 256 by omega)
    have v14 : U 14 = Fb.r8 (x + 9) := by rw [hUe]; exact k 14 (by decide) (show (x + 8 + 1) % 256 < 256 by omega)
    have v15 : U 15 = Fb.r8 (x + 10) := by rw [hUe]; exact k 15 (by decide) (show (x + 8 + 2) % 256 < 256 by omega)
    have v16 : U 16 = Fb.r8 (x + 11) := by rw [hUe]; exact k 16 (by decide) (show (x + 8 + 3) % 256 < 256 by omega)
    have v12 : U 12 = Fb.parA [Fb.r8 (x + 1), Fb.r8 (x + 2), Fb.r8 (x + 3), Fb.r8 (x + 4), Fb.r8 (x + 5), Fb.r8 (x + 6), Fb.r8 (x + 7)] := by
      rw [hUe]
      refine par_exact _ 1 _ _ _ _ _ _ _ _ (by omega) (by omega) ?_ ?_ ?_ ?_ ?_ ?_ ?_ <;> (rw [mlE_get SQ (128 * F) x m c1 c2' _ (by decide) (by omega)] <;> rfl)
    have hsec := sec_le LL D U q (Fb.ml5W x) (by unfold Fb.ml5W; rw [v10, v11, v12, v13, v14, v15, v16]) (h.ramp hff)
    omega
theorem ml_none (hF : F = 0 ∨ F = 1) (hx : x < 256) (h : Asked (mlE SQ (128 * F) x m c1 c2') o M LL SS FF D q) : False := by
  have hfit := h.fit; have hm2 := h.m2; have ho1 := h.o1
  have hl := mlE_len SQ (128 * F) x m c1 c2'
  by_cases ho : 10 ≤ o
  · have hB : 1 ≤ (o - 2) / 8 := by omega
    refine deep h ((o - 2) / 8) ((o - 2) % 8) ((x + (7 * ((o - 2) / 8) - 6)) % 256) (by omega) (by omega) (by omega) (fun i hi hi2 => ?_)
    rw [hl] at hi2
    rw [mlE_get SQ (128 * F) x m c1 c2' i (by omega) (by omega)]
    omega
  · by_cases h5 : o = 5
    · subst h5; exact ml_case5 hF hx h
    · have hU : ∀ i, ub (mlE SQ (128 * F) x m c1 c2') (o + i) < 256 := fun i => ub_lt _ _
      have hcost := h.cost
      by_cases h6 : o = 6 ∧ (F, x) ∈ [(0, 0), (1, 0), (1, 128)]
      · obtain ⟨rfl, hc⟩ := h6
        exact ml_case6 hF hx h hc
      · by_cases hM : M = 2 ∧ o ≠ 6
        · obtain ⟨hM, h6'⟩ := hM
          obtain ⟨rfl, hL⟩ := h.low hM
          have hk := Fb.allB_spec (Fb.allB_spec (Fb.allB_spec Fb.ml_s F (by omega)) x hx) o (by omega)
          simp only [Bool.or_eq_true, beq_iff_eq, decide_eq_true_eq] at hk
          have h3 := lbS_sound _ _ hU (match9 (n := 8) (ml_match SQ (128 * F) x m c1 c2' (by omega)) (by omega)) LL SS D h.pp.1 hL
          omega
        · have hk := Fb.allB_spec (Fb.allB_spec (Fb.allB_spec Fb.ml_ok F (by omega)) x hx) o (by omega)
          simp only [Bool.or_eq_true, Bool.and_eq_true, beq_iff_eq, decide_eq_true_eq] at hk
          have hm9 := match9 (o := o) (n := 9) (ml_match SQ (128 * F) x m c1 c2' (by omega)) (by omega)
          have h3 := lb_sound _ _ hU hm9 LL SS FF D h.pp
          have hx6 : o = 6 → (x = 0 ∨ x = 128 ∧ F = 1) → False := fun ho6 hh => h6 ⟨ho6, by
            rcases hh with rfl | ⟨rfl, rfl⟩
            · rcases hF with rfl | rfl <;> simp
            · simp⟩
          by_cases hal : o = 8 ∧ x = 255
          · obtain ⟨rfl, rfl⟩ := hal
            have k := fun i hi => hm9 i hi
            have hl2 : 15 ≤ m + 8 := by unfold mN at hfit; omega
            have ha := al_use LL SS FF D _ hU h.pp ((k 0 (by decide)).1 (by show 255 % 256 < 256; decide)) ((k 1 (by decide)).2 rfl) ((k 2 (by decide)).1 (by show (255 + 1) % 256 < 256; decide)) ((k 3 (by decide)).1 (by show (255 + 1 + 1) % 256 < 256; decide)) ((k 4 (by decide)).1 (by show (255 + 1 + 2) % 256 < 256; decide)) ((k 5 (by decide)).1 (by show (255 + 1 + 3) % 256 < 256; decide)) ((k 6 (by decide)).1 (by show (255 + 1 + 4) % 256 < 256; decide)) ((k 7 (by decide)).1 (by show (255 + 1 + 5) % 256 < 256; decide)) ((k 8 (by decide)).1 (by show (255 + 1 + 6) % 256 < 256; decide)) (by
              refine par_exact _ 1 _ _ _ _ _ _ _ _ (by omega) (by omega) ?_ ?_ ?_ ?_ ?_ ?_ ?_ <;> (rw [mlE_get SQ (128 * F) 255 m c1 c2' _ (by decide) (by unfold mN at hfit; omega)] <;> rfl))
            omega
          · rcases hk with (((hk | hk) | ⟨hk, hk'⟩) | ⟨hk, hk'⟩) | hk
            · omega
            · omega
            · exact hx6 hk hk'
            · exact hal ⟨hk, hk'⟩
            · omega
end
end
end Go.Proofs.YtgopighmifpefaaGreatDoor
