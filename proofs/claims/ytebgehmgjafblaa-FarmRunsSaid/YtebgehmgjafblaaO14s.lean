/- What is proved here: scripts of steps and lists of strings and numbers among the arguments, opened. No condition. -/
import Derived.Test.YtebgehmgjafblaaL14d
import Derived.Deep.Slices
import Derived.Deep.Strs
set_option linter.unusedVariables false
set_option linter.unusedSimpArgs false
namespace Go.Proofs.Ytebgehmgjafblaa
open Go.RowKit
open Go.ChangeShapes Go.WideShapes Go.ChangeAt Go.Deep
instance : Inhabited Stp := ⟨⟨Tc.zero, false, false⟩⟩
section
variable {H : Type} {enc : TypeId × Value → H} {w : World} {base : Nat} {spare : Nat → Bool} {held : Bool}
theorem one_of_drop {cs : List Value} {j : Nat} {v : Value} (h : (cs.drop j).take 1 = [v]) : cs[j]? = some v := by
  have := congrArg (·[0]?) h
  simpa using this
set_option maxRecDepth 100000 in
theorem step_open {fuel : Nat} {cs : List Value} {x : DataW H × List MemPlace} (h : DataW.trod enc Try.prog w base spare held fuel 32 cs = some x) : ∃ s : Stp, cs = s.cells ∧ s.x.wf := by
  obtain ⟨xs, n, _, _, hl, hlen, hf⟩ := DataW.trod_struct Try.underlying32 h
  have hlen : xs.length = 3 := hlen
  have f0 := hf 0 _ rfl
  have f1 := hf 1 _ rfl
  have f2 := hf 2 _ rfl
  match xs, hlen with
  | [y0, y1, y2], _ =>
    have hc6 : Try.prog.cellsOf 30 = 6 := by kernel_rfl
    have hc1 : Try.prog.cellsOf 4 = 1 := by kernel_rfl
    have hc8 : Try.prog.cellsOf 32 = 8 := by kernel_rfl
    rw [hc8] at hl
    simp only [List.getElem?_cons_zero, List.getElem?_cons_succ, hc6, hc1] at f0 f1 f2
    obtain ⟨f, hfc, hfw⟩ := tc_open f0
    obtain ⟨b1, e1, _⟩ := DataW.trod_bool Try.underlying4 f1
    obtain ⟨b2, e2, _⟩ := DataW.trod_bool Try.underlying4 f2
    refine ⟨⟨f, b1, b2⟩, ?_, hfw⟩
    match cs, hl with
    | [d0, d1, d2, d3, d4, d5, d6, d7], _ =>
      have hfc : [d0, d1, d2, d3, d4, d5] = f.cells := hfc
      have e1 : [d6] = [.bool b1] := e1
      have e2 : [d7] = [.bool b2] := e2
      simp only [Tc.cells, List.cons.injEq, and_true] at hfc e1 e2
      obtain ⟨h0, h1, h2, h3, h4, h5⟩ := hfc
      rw [h0, h1, h2, h3, h4, h5, e1, e2]; rfl
set_option maxRecDepth 100000 in
theorem open_script {r : Reach} {b0 : Nat} {v : Value} {d : DataW H} {p : List MemPlace} (hv : Value.okWide Try.prog w r b0 22 v) (h : DataW.Trod enc Try.prog w base spare held 22 v d p) :
    ∃ a n cap S, v = .slice a n cap ∧ n ≤ 9223372036854775807 ∧ StepsAt w a n S := by
  obtain ⟨fuel, hf⟩ := h
  obtain ⟨a0, len, cap, rfl⟩ := okWide_slice Try.underlying22 hv
  rcases open_slice Try.underlying22 hf with ⟨hcs, hx⟩ | ⟨a, len', cap', m, n, D, Pl, hcs, hb, hl, hm, hmm, hx, hel⟩
  · simp [Value.cells] at hcs
    obtain ⟨rfl, rfl, rfl⟩ := hcs
    exact ⟨none, 0, 0, fun _ => ⟨Tc.zero, false, false⟩, rfl, by omega, fun i hi => by omega⟩
  · simp [Value.cells] at hcs
    obtain ⟨rfl, rfl, rfl⟩ := hcs
    have hc8 : Try.prog.cellsOf 32 = 8 := by kernel_rfl
    have hlm : len ≤ m := by rw [hmm]; split <;> omega
    obtain ⟨b, off, spot⟩ := a
    have hspot : 0 < len → spot = none := fun h0 => by
      obtain ⟨cs', h1, h2⟩ := hel 0 (by omega)
      obtain ⟨s, rfl, hw⟩ := step_open h2
      rw [hc8] at h1
      obtain ⟨_, _, hc⟩ := World.cells?_some h1
      have c0 := hc 0 (by omega)
      have := World.cell?_spot (c0.trans rfl)
      simpa [Addr.add] using this
    have each : ∀ i, i < len → ∃ s : Stp, b < w.heap.size ∧ StepCells w b (off + i * 8) s ∧ s.x.wf := fun i hi => by
      obtain ⟨cs', h1, h2⟩ := hel i (by omega)
      obtain ⟨s, rfl, hw⟩ := step_open h2
      rw [hc8] at h1
      obtain ⟨_, _, hc⟩ := World.cells?_some h1
      obtain rfl := hspot (by omega)
      have hcell : ∀ j, j < 8 → w.cell? ⟨b, off + i * 8 + j, none⟩ = s.cells[j]? := fun j hj => by
        have := hc j hj
        rw [add_add] at this
        rw [← this]
        congr 1
        unfold Addr.add
        split
        · rename_i h; rw [show off + i * 8 + j = off by omega]
        · simp only [Addr.mk.injEq, and_true, true_and]; omega
      refine ⟨s, World.block_lt_of_cell? _ _ ((hcell 0 (by omega)).trans rfl), ?_, hw⟩
      intro j v hjv
      have hj : j < 8 := (List.getElem?_eq_some_iff.1 hjv).1
      rw [hcell j hj]; exact hjv
    obtain ⟨S, hS⟩ := choose_lt (α := Stp) each
    refine ⟨some ⟨b, off, spot⟩, len, cap, S, rfl, ?_, fun i hi => ?_⟩
    · have : cap ≤ 9223372036854775807 := hm
      omega
    · obtain ⟨h1, h2, h3⟩ := hS i hi
      obtain rfl := hspot (by omega)
      exact ⟨b, off, rfl, h1, h2, h3⟩
end
end Go.Proofs.Ytebgehmgjafblaa
