/- What is proved here: the walk of the law about Restore. -/
import Derived.Test.YtincoocagfegfaaU14
import Derived.Test.YtincoocagfegfaaU17
import Derived.Test.YtincoocagfegfaaLh
set_option linter.unusedVariables false
set_option linter.unusedSimpArgs false
namespace Go.Proofs.Ytincoocagfegfaa
open Go.RowKit
theorem restV_eq (S : Nat → ByteArray) (n : Nat) : ∃ s j, restV S n = .tuple #[.string s, .int .i64 j] := by
  unfold restV
  split
  · exact ⟨_, _, rfl⟩
  · exact ⟨_, _, rfl⟩
set_option maxHeartbeats 4000000 in
set_option maxRecDepth 100000 in
theorem AuthRestores_any (a : Option Addr) (n cap : Nat) (S : Nat → ByteArray) (w : World) (hn : n ≤ 9223372036854775807) (hS : RowAt w a n (fun i => .string (S i))) :
    Calls Try.prog 4 #[.slice a n cap] w fun e w' => e = .returned (.bool true) ∧ Below w.heap.size w w' := by
  have HSH := Lib.hid (shown17_any)
  have HS := Lib.hid hS
  have HLG := Lib.hid (fun W (h : RowAt W a n (fun i => .string (S i))) => Long_le a n cap S 20000 W (by decide) (by decide) hn h)
  have HAR := Lib.hid (fun W (h : RowAt W a n (fun i => .string (S i))) (hz : ∀ i, i < n → (S i).size ≤ 1000000) => aRestore_any a n cap S W hn h hz)
  have HQR := Lib.hid (fun W (h : RowAt W a n (fun i => .string (S i))) => qRestore_any a n cap S W hn h)
  have HAN := Lib.hid (fun t W (h : t.size ≤ 1000000) => aNew_err zb t W (by decide) h)
  have HQN := Lib.hid (fun t W => qNew_err zb t W (by decide))
  obtain ⟨sv, sj, hrv⟩ := restV_eq S n
  rw [hrv] at HAR HQR
  clear hS hrv
  go_enter Try.func4, Try.ntmps4
  go_wp2_with fail
  refine (HSH.out _).mono ?_
  rintro e w1 ⟨rfl, hL⟩
  have HL := Lib.hid hL; clear hL
  go_wp2_with fail
  refine (HLG.out _ (HS.out.below HL.out (Nat.le_refl _))).mono ?_
  rintro e w2 ⟨b, rfl, hb, hL⟩
  replace HL := Lib.hid (HL.out.trans (hL.mono HL.out.size))
  clear hL
  cases b
  case true =>
    go_wp2_with fail
    go_ret
    exact ⟨rfl, HL.out⟩
  case false =>
    have HZ := Lib.hid (show ∀ i, i < n → (S i).size ≤ 1000000 from fun i hi => by have := (hb rfl).2 i hi; omega)
    clear hb
    go_wp2_with fail
    refine (HAR.out _ (HS.out.below HL.out (Nat.le_refl _)) HZ.out).mono ?_
    rintro e w3 ⟨rfl, hL⟩
    replace HL := Lib.hid (HL.out.trans (hL.mono HL.out.size))
    clear hL
    go_wp2_with fail
    refine (HQR.out _ (HS.out.below HL.out (Nat.le_refl _))).mono ?_
    rintro e w4 ⟨rfl, hL⟩
    replace HL := Lib.hid (HL.out.trans (hL.mono HL.out.size))
    clear hL
    have e0 : (sv.toList != sv.toList) = false := by simp
    go_wp2_with fail
    go_loopw [7] (fun i wr => ∃ k : Nat, k ≤ n ∧ i = .int .i64 k ∧ Below w.heap.size w wr) (fun i _ => n - (intOf i).toNat)
    case atStart => exact ⟨0, by omega, rfl, HL.out⟩
    case round =>
      clear HL
      obtain ⟨k, hk, rfl, hL⟩ := hrel
      have HL := Lib.hid hL; clear hL
      by_cases hlt : k < n
      · by_cases h20 : k < 20
        · obtain ⟨bb, off, rfl, hbb, hC⟩ := HS.out k hlt
          have c0 : wr.cell? ⟨bb, off + k, none⟩ = some (.string (S k)) := (HL.out.cell (p := ⟨bb, off + k, none⟩) hbb).trans hC
          replace hC : w.cell? ⟨bb, off + k, none⟩ = some (.string (S k)) := hC
          have hz := HZ.out k hlt
          obtain ⟨t, ht⟩ : ∃ t, t = S k := ⟨_, rfl⟩
          rw [← ht] at c0 hz hC
          clear ht
          go_wp2_with fail
          refine (HAN.out t _ hz).mono ?_
          rintro e w5 ⟨p, rfl, hL⟩
          replace HL := Lib.hid (HL.out.trans (hL.mono HL.out.size))
          replace c0 : w5.cell? ⟨bb, off + k, none⟩ = some (.string t) := (HL.out.cell (p := ⟨bb, off + k, none⟩) hbb).trans hC
          clear hL
          go_wp2_with fail
          refine (HQN.out t _).mono ?_
          rintro e w6 ⟨q, rfl, hL⟩
          replace HL := Lib.hid (HL.out.trans (hL.mono HL.out.size))
          clear hL c0
          go_wp2_with fail
          go_roundw
          case rel => exact ⟨k + 1, by omega, by go_num, HL.out⟩
          case measure => simp [intOf]; omega
        · go_wp2_with fail
          go_ret
          exact ⟨rfl, HL.out⟩
      · obtain rfl : k = n := by omega
        go_wp2_with fail
        go_ret
        exact ⟨rfl, HL.out⟩
end Go.Proofs.Ytincoocagfegfaa
