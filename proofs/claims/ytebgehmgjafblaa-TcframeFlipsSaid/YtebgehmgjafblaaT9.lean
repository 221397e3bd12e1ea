/- What is proved here: the walk of SameStrings over lists of the call's own. -/
import Derived.Test.YtebgehmgjafblaaT7
import Derived.BigQuiet
import Derived.Deep.LoopGhost
set_option linter.unusedVariables false
set_option linter.unusedSimpArgs false
namespace Go.Proofs.Ytebgehmgjafblaa
open Go.RowKit
theorem srow_form {w : World} {base : Nat} {v : Value} {ss : List ByteArray} (h : SRow w base v ss) : ∃ a cap, v = .slice a ss.length cap ∧ ∀ i, i < ss.length → ∃ g, a = some ⟨g, 0, none⟩ ∧ w.cell? ⟨g, i, none⟩ = some (.string (ss.getD i .empty)) := by
  obtain ⟨h1, h2 | ⟨g, cap, cur, rfl, hb, hg, hc, hm, hcs, ht⟩⟩ := h
  · exact ⟨none, 0, by rw [h2.1, h2.2], fun i hi => by omega⟩
  · refine ⟨some ⟨g, 0, none⟩, cap, rfl, fun i hi => ⟨g, rfl, ?_⟩⟩
    have hi2 : i < cur.size := by omega
    rw [cell_of_row w g i cur _ _ hg]
    have : (cur.toList.take (ss.length * 1))[i]? = (ss.map Value.string)[i]? := by rw [ht]
    rw [List.getElem?_take_of_lt (by omega)] at this
    simp only [Array.getElem?_toList] at this
    rw [this, List.getElem?_map, List.getElem?_eq_getElem hi]
    simp [List.getD, hi]
theorem srow_below {w w' : World} {base B : Nat} {v : Value} {ss : List ByteArray} (h : SRow w base v ss) (k : Below B w w') (hB : w.heap.size ≤ B) : SRow w' base v ss := by
  obtain ⟨h1, h2 | ⟨g, cap, cur, hv, hb, hg, r⟩⟩ := h
  · exact ⟨h1, .inl h2⟩
  · exact ⟨h1, .inr ⟨g, cap, cur, hv, hb, by rw [k.block g (Nat.lt_of_lt_of_le (Array.getElem?_eq_some_iff.1 hg).1 hB)]; exact hg, r⟩⟩
set_option maxHeartbeats 4000000 in
set_option maxRecDepth 100000 in
theorem Same_any (ss : List ByteArray) (v u : Value) (b1 b2 : Nat) (w : World) (hl : ss.length ≤ 1000000) (h1 : SRow w b1 v ss) (h2 : SRow w b2 u ss) : Calls Try.prog 24 #[v, u] w fun e w' => e = .returned (.bool true) ∧ Below w.heap.size w w' := by
  obtain ⟨a, ca, rfl, ha⟩ := srow_form h1
  obtain ⟨b, cb, rfl, hb⟩ := srow_form h2
  obtain ⟨n, hn⟩ : ∃ n, n = ss.length := ⟨_, rfl⟩
  rw [← hn] at hl ha hb ⊢
  have HA := Lib.hid ha; have HB := Lib.hid hb
  clear ha hb h1 h2 hn
  have hne : ((n : Int) != (n : Int)) = false := by simp
  go_enter Try.func24, Try.ntmps24
  go_wp2_with fail
  go_loopg [5] n (fun m i wr => ∃ k : Nat, k ≤ n ∧ m = n - k ∧ i = .int .i64 k ∧ Below w.heap.size w wr)
  case atStart => exact ⟨0, by omega, by omega, rfl, Below.refl _ _⟩
  case round =>
    obtain ⟨k, hk, hm, rfl, hL⟩ := hrel
    by_cases hlt : k < n
    · obtain ⟨g1, rfl, c1⟩ := HA.out k hlt
      obtain ⟨g2, rfl, c2⟩ := HB.out k hlt
      obtain ⟨s, hs⟩ : ∃ s, s = ss.getD k .empty := ⟨_, rfl⟩
      rw [← hs] at c1 c2
      have c1' := (hL.cell (World.block_lt_of_cell? _ _ c1)).trans c1
      have c2' := (hL.cell (World.block_lt_of_cell? _ _ c2)).trans c2
      have HL := Lib.hid hL; clear hL hs c1 c2
      have hss : (s.toList == s.toList) = true := by simp
      go_wp2_with fail
      go_quiet (fail)
      go_wp2_with fail
      go_roundg (n - (k + 1))
      case measure => omega
      case rel => exact ⟨k + 1, by omega, rfl, by go_num, HL.out.trans ((below_quiet _ _).1.mono HL.out.size)⟩
    · obtain rfl : k = n := by omega
      go_wp2_with fail
      go_ret
      exact ⟨rfl, hL⟩
set_option maxHeartbeats 4000000 in
set_option maxRecDepth 100000 in
theorem Same_nil (w : World) : Calls Try.prog 24 #[.slice none 0 0, .slice none 0 0] w fun e w' => e = .returned (.bool true) ∧ Below w.heap.size w w' := Same_any [] _ _ 0 0 w (by simp) (srow_nil _ _) (srow_nil _ _)
end Go.Proofs.Ytebgehmgjafblaa
