/- What is proved here: a part of the proof of TopLink (texts Fi2). No condition. -/
import Derived.Test.YtgopighmifpefaaGreatDoorPart13
set_option linter.unusedVariables false
set_option linter.unusedSimpArgs false
namespace Go.Proofs.YtgopighmifpefaaGreatDoor
namespace Fb
section
set_option maxRecDepth 100000
/-- The numbers below 256 with few bits. -/
def mz (r : Nat) : List Nat := match r with
  | 0 => [0]
  | 1 => [0, 1, 2, 4, 8, 16, 32, 64, 128]
  | 2 => [0, 1, 2, 4, 8, 16, 32, 64, 128, 3, 5, 9, 17, 33, 65, 129, 6, 10, 18, 34, 66, 130, 12, 20, 36, 68, 132, 24, 40, 72, 136, 48, 80, 144, 96, 160, 192]
  | _ => List.range 256
theorem mz_ok : ∀ z : Nat, z < 256 → z ∈ mz (pc z) ∧ (pc z ≤ 1 → z ∈ mz 1) ∧ (pc z ≤ 2 → z ∈ mz 2) := by decide +kernel
theorem mz_spec (r z : Nat) (hz : z < 256) (h : pc z ≤ r) : z ∈ mz r := by
  obtain ⟨h0, h1, h2⟩ := mz_ok z hz
  match r, h with
  | 0, h => have : pc z = 0 := by omega
            rw [this] at h0; exact h0
  | 1, h => exact h1 h
  | 2, h => exact h2 h
  | r + 3, _ => exact List.mem_range.2 hz
/-- Each candidate whose cost is t at most passes the test. -/
def cand (t b w5 w6 w7 w8 : Nat) (k : Nat → Nat → Nat → Nat → Nat → Bool) : Bool :=
  [0, 64, 128, 192].all fun FF => let b1 := b + pc (w7 ^^^ FF); decide (t < b1) ||
    (mz (t - b1)).all fun z => let b2 := b1 + pc z; decide (t < b2) ||
      (mz (t - b2)).all fun y => let b3 := b2 + pc y; decide (t < b3) ||
        (mz (t - b3)).all fun x => let b4 := b3 + pc x; decide (t < b4) || k (w5 ^^^ z) (w6 ^^^ x) FF (w8 ^^^ y) b4
theorem xx (a b : Nat) : a ^^^ (a ^^^ b) = b := by rw [← Nat.xor_assoc, Nat.xor_self, Nat.zero_xor]
theorem cand_spec {t b w5 w6 w7 w8 : Nat} {k : Nat → Nat → Nat → Nat → Nat → Bool} (h : cand t b w5 w6 w7 w8 k = true) (LL SS FF D : Nat) (h5 : w5 ^^^ LL < 256) (h6 : w6 ^^^ SS < 256) (h8 : w8 ^^^ D < 256) (hF : FF ∈ [0, 64, 128, 192])
    (hb : b + pc (w7 ^^^ FF) + pc (w5 ^^^ LL) + pc (w8 ^^^ D) + pc (w6 ^^^ SS) ≤ t) : k LL SS FF D (b + pc (w7 ^^^ FF) + pc (w5 ^^^ LL) + pc (w8 ^^^ D) + pc (w6 ^^^ SS)) = true := by
  unfold cand at h
  have h1 := List.all_eq_true.1 h FF hF
  simp only [Bool.or_eq_true, decide_eq_true_eq] at h1
  rcases h1 with h1 | h1
  · omega
  have h2 := List.all_eq_true.1 h1 (w5 ^^^ LL) (mz_spec _ _ h5 (by omega))
  simp only [Bool.or_eq_true, decide_eq_true_eq] at h2
  rcases h2 with h2 | h2
  · omega
  have h3 := List.all_eq_true.1 h2 (w8 ^^^ D) (mz_spec _ _ h8 (by omega))
  simp only [Bool.or_eq_true, decide_eq_true_eq] at h3
  rcases h3 with h3 | h3
  · omega
  have h4 := List.all_eq_true.1 h3 (w6 ^^^ SS) (mz_spec _ _ h6 (by omega))
  simp only [Bool.or_eq_true, decide_eq_true_eq] at h4
  rcases h4 with h4 | h4
  · omega
  rw [xx, xx, xx] at h4
  exact h4
def hvL : List Nat := [0, 69, 79, 10, 91, 30, 20, 81, 115, 54, 60, 121, 40, 109, 103, 34]
def hfA (r h : Nat) : Nat := (r * 16 % 128) ^^^ hvL.getD ((r / 8) ^^^ h) 0
def remA (l : List Nat) : Nat := l.foldl (fun r c => hfA (hfA r (c / 16)) (c % 16)) 0
def parA (l : List Nat) : Nat := 254 - 2 * remA l
/-- May a frame of the link begin so? -/
def ppB (LL FF D : Nat) : Bool := decide (8 ≤ LL) && decide (LL ≤ 206) && (FF == 128 || FF == 0 && decide (27 ≤ LL) || FF == 64 && D == 16 && decide (27 ≤ LL) || FF == 192 && D == 16 && decide (14 ≤ LL))
def pCost (w9 LL SS FF D : Nat) : Nat := pc ((w9 ^^^ parA [0, 1, 0, LL, SS, FF, D]) / 2)
theorem al_ok : cand 4 1 3 4 5 6 (fun LL SS FF D b => !ppB LL FF D || decide (4 < b + pCost (parA [0, 1, 2, 3, 4, 5, 6]) LL SS FF D)) = true := by decide +kernel
theorem fo9_ok : (allB 256 fun ll => cand 3 2 ll 1 2 (parA [0, 192, 1, 0, ll, 1, 2]) (fun LL SS FF D b => !ppB LL FF D || decide (3 < b + pCost 3 LL SS FF D))) = true := by decide +kernel
theorem fo11_ok : (allB 2 fun C => allB 256 fun ll => let t := 5 - (pc ((193 + C) ^^^ 235) + pc (128 ^^^ 144) - 1); let b := pc (ll ^^^ 1) + 1; decide (t < b) || cand t b 129 (parA [0, 193 + C, 128, 0, ll, 128, 129]) 130 131 (fun LL SS FF D b => !ppB LL FF D || decide (t < b + pCost 132 LL SS FF D))) = true := by decide +kernel
theorem ml6_ok : ([(0, 0), (1, 0), (1, 128)].all fun p => let F := p.1; let x := p.2; let t := 5 - (pc ((128 * F) ^^^ 144) - 1); cand t (pc x + 1 + pc (x + 1)) (x + 2) (x + 3) (x + 4) (x + 5) (fun LL SS FF D b => !ppB LL FF D || decide (t < b + pCost (x + 6) LL SS FF D))) = true := by decide +kernel
/-- The second block of a frame with a ramp. -/
def sec (LL D : Nat) (W : List Nat) : Nat := (List.range 7).foldl (fun a i => a + if i + 9 ≤ LL then pc (W.getD i 0 ^^^ ((D + 1 + i) % 256)) else 0) 0
def r8 (n : Nat) : Nat := n % 256
def ml5W (x : Nat) : List Nat := [r8 (x + 6), r8 (x + 7), parA [r8 (x + 1), r8 (x + 2), r8 (x + 3), r8 (x + 4), r8 (x + 5), r8 (x + 6), r8 (x + 7)], r8 (x + 8), r8 (x + 9), r8 (x + 10), r8 (x + 11)]
theorem ml5_ok : (allB 2 fun F => allB 256 fun x => let b := pc (128 * F) + pc (x ^^^ 1); decide (5 < b) || cand 5 b (r8 (x + 1)) (r8 (x + 2)) (r8 (x + 3)) (r8 (x + 4)) (fun LL SS FF D b => !ppB LL FF D || decide (5 < b + pCost (r8 (x + 5)) LL SS FF D) || (FF == 0 || FF == 128) && decide (14 ≤ LL) && decide (5 ≤ (b + pCost (r8 (x + 5)) LL SS FF D - 1) + (sec LL D (ml5W x) - 1)))) = true := by decide +kernel
end
end Fb
end Go.Proofs.YtgopighmifpefaaGreatDoor
