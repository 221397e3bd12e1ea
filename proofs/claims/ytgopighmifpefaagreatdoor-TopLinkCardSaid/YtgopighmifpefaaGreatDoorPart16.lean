/- What is proved here: a part of the proof of TopLink (texts Fi3). No condition. -/
import Derived.Test.YtgopighmifpefaaGreatDoorPart15
set_option linter.unusedVariables false
set_option linter.unusedSimpArgs false
namespace Go.Proofs.YtgopighmifpefaaGreatDoor
namespace Fb
section
set_option maxRecDepth 100000
def lo2 (w : Nat) : Nat := if w < 256 then min (min (min (pc (w ^^^ 8)) (pc (w ^^^ 9))) (min (pc (w ^^^ 10)) (pc (w ^^^ 11)))) (min (pc (w ^^^ 12)) (pc (w ^^^ 13))) else 0
def lbS (w : List Nat) : Nat := match w with
  | w0 :: w1 :: w2 :: w3 :: w4 :: w5 :: _ :: w7 :: _ => (oc w0 235 + oc w1 144 - 1) + (oc w2 0 + oc w3 1 + oc w4 0 + lo2 w5 + oc w7 128 - 1)
  | _ => 0
theorem ram_s : (allB 256 fun y => allB 8 fun r => decide (5 ≤ lbS ((ramU y).drop r))) = true := by decide +kernel
theorem ml_s : (allB 2 fun F => allB 256 fun x => allB 10 fun o => o == 0 || o == 5 || o == 6 || decide (5 ≤ lbS ((mlU (128 * F) x).drop o))) = true := by decide +kernel
theorem fo_s : (allB 2 fun F => allB 3 fun Ch => allB 256 fun cl => allB 2 fun lh => allB 18 fun o => o == 0 || o == 5 || decide (5 ≤ lbS ((foU (64 + 128 * F) (192 + Ch) cl lh).drop o))) = true := by decide +kernel
theorem fo5_a : (allB 2 fun F => allB 207 fun LQ => decide (LQ < 8) || allB 256 fun SQ => let s := pc (LQ ^^^ 235) + pc (SQ ^^^ 144); decide (2 < s) || let b := pc (64 + 128 * F) + 3 + pc (parA [0, 1, 0, LQ, SQ, 64 + 128 * F, 16]); decide (5 ≤ (s - 1) + (b - 1)) || F == 0 && s == 1 && b == 5) = true := by decide +kernel
theorem fo5_b : (allB 3 fun Ch => allB 256 fun cl => allB 2 fun lh => cand 5 4 0 (192 + Ch) cl lh (fun LL SS FF D b => !ppB LL FF D || (FF == 0 || FF == 128) && decide (10 ≤ LL) && decide (2 ≤ pc (cl ^^^ ((D + 1) % 256)) + pc (((cl + 1) % 256) ^^^ ((D + 2) % 256))) || LL == 8 && FF == 128 && SS == 192 + Ch && cl == 128 && D == lh)) = true := by decide +kernel
theorem pairs_ok : (allB 256 fun cl => allB 256 fun D => let b := pc (((cl + 1) % 256) ^^^ ((D + 1) % 256)) + pc (((cl + 2) % 256) ^^^ ((D + 3) % 256)) + pc (((cl + 3) % 256) ^^^ ((D + 4) % 256)) + pc (((cl + 4) % 256) ^^^ ((D + 5) % 256)) + pc (((cl + 5) % 256) ^^^ ((D + 6) % 256)) + pc (((cl + 6) % 256) ^^^ ((D + 7) % 256)); decide (3 < b) || D == (cl + 255) % 256 && b == pc (((cl + 1) % 256) ^^^ cl)) = true := by decide +kernel
def fo6T : Bool := allB 2 fun F => allB 256 fun cl => let s := pc ((64 + 128 * F) ^^^ 144); let t := 5 - (s - 1); let D := (cl + 255) % 256; let c2 := pc (((cl + 1) % 256) ^^^ cl); decide (4 < (s - 1) + 1 + (c2 - 1)) ||
    allB 2 fun lh => (mz 2).all fun z => let ll := D ^^^ z; let b0 := 2 + lh + pc z; decide (5 ≤ (s - 1) + (b0 - 1) + (c2 - 1)) || allB 3 fun Ch => let c3 := c2 + pc (parA [0, 192 + Ch, cl, lh, ll, cl, (cl + 1) % 256] ^^^ ((D + 2) % 256)); decide (5 ≤ (s - 1) + (b0 - 1) + (c3 - 1)) ||
      cand t 2 (192 + Ch) cl lh ll (fun LL SS FF D2 b => !ppB LL FF D2 || !(FF == 0 || FF == 128) || D2 != D || decide (5 ≤ (s - 1) + (b + pCost cl LL SS FF D2 - 1) + (c3 - 1)))
theorem fo6_r : fo6T = true := by decide +kernel
theorem fo6_x : (allB 2 fun F => allB 256 fun cl => allB 2 fun lh => let s := pc ((64 + 128 * F) ^^^ 144); let c2 := pc ((cl + 1) % 256) + pc (((cl + 2) % 256) ^^^ ((cl + 5) % 256)) + min (pc ((cl + 3) % 256)) (pc (((cl + 3) % 256) ^^^ 1)); [64, 192].all fun FF => decide (5 ≤ (s - 1) + (2 + pc (lh ^^^ FF) - 1) + (c2 - 1))) = true := by decide +kernel
end
end Fb
end Go.Proofs.YtgopighmifpefaaGreatDoor
