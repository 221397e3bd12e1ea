/- What is proved here: lists of strings among the arguments, opened. No condition. -/
import Derived.Test.YtincoocagfegfaaOpen
import Derived.Test.YtincoocagfegfaaKit
import Derived.Deep.Slices
import Derived.Deep.Strs
set_option linter.unusedVariables false
set_option linter.unusedSimpArgs false
namespace Go.Proofs.Ytincoocagfegfaa
open Go.RowKit
open Go.ChangeShapes Go.WideShapes Go.ChangeAt Go.Deep
/-- A list of one-celled values among the arguments. -/
def RowAt (w : World) (a : Option Addr) (n : Nat) (V : Nat → Value) : Prop := ∀ i, i < n → ∃ b off, a = some ⟨b, off, none⟩ ∧ b < w.heap.size ∧ w.cell? ⟨b, off + i, none⟩ = some (V i)
theorem RowAt.below {w w' : World} {a : Option Addr} {n B : Nat} {V : Nat → Value} (h : RowAt w a n V) (k : Below B w w') (hB : w.heap.size ≤ B) : RowAt w' a n V := by
  intro i hi
  obtain ⟨b, off, e, hb, hc⟩ := h i hi
  exact ⟨b, off, e, Nat.lt_of_lt_of_le hb k.size, (k.cell (p := ⟨b, off + i, none⟩) (Nat.lt_of_lt_of_le hb hB)).trans hc⟩
section
variable {H : Type} {enc : TypeId × Value → H} {w : World} {base : Nat} {spare : Nat → Bool} {held : Bool}
set_option maxRecDepth 100000 in
theorem open_strlist {r : Reach} {b0 : Nat} {v : Value} {d : DataW H} {p : List MemPlace} (hv : Value.okWide Try.prog w r b0 30 v) (h : DataW.Trod enc Try.prog w base spare held 30 v d p) :
    ∃ a n cap, ∃ S : Nat → ByteArray, v = .slice a n cap ∧ n ≤ 9223372036854775807 ∧ RowAt w a n (fun i => .string (S i)) := by
  obtain ⟨fuel, hf⟩ := h
  obtain ⟨a0, len, cap, rfl⟩ := okWide_slice Try.underlying30 hv
  rcases open_slice Try.underlying30 hf with ⟨hcs, hx⟩ | ⟨a, len', cap', m, n, D, Pl, hcs, hb, hl, hm, hmm, hx, hel⟩
  · simp [Value.cells] at hcs
    obtain ⟨rfl, rfl, rfl⟩ := hcs
    exact ⟨none, 0, 0, fun _ => .empty, rfl, by omega, fun i hi => by omega⟩
  · simp [Value.cells] at hcs
    obtain ⟨rfl, rfl, rfl⟩ := hcs
    have hc1 : Try.prog.cellsOf 9 = 1 := by kernel_rfl
    have hlm : len ≤ m := by rw [hmm]; split <;> omega
    obtain ⟨b, off, spot⟩ := a
    have hspot : 0 < len → spot = none := fun h0 => by
      obtain ⟨cs', h1, h2⟩ := hel 0 (by omega)
      obtain ⟨s, rfl, _⟩ := DataW.trod_string Try.underlying9 h2
      rw [hc1] at h1
      obtain ⟨_, _, hc⟩ := World.cells?_some h1
      have c0 := hc 0 (by omega)
      have := World.cell?_spot (c0.trans rfl)
      simpa [Addr.add] using this
    have each : ∀ i, i < len → ∃ s : ByteArray, b < w.heap.size ∧ w.cell? ⟨b, off + i, none⟩ = some (.string s) := fun i hi => by
      obtain ⟨cs', h1, h2⟩ := hel i (by omega)
      obtain ⟨s, rfl, _⟩ := DataW.trod_string Try.underlying9 h2
      rw [hc1] at h1
      obtain ⟨_, _, hc⟩ := World.cells?_some h1
      obtain rfl := hspot (by omega)
      have hcell : w.cell? ⟨b, off + i, none⟩ = some (.string s) := by
        have := hc 0 (by omega)
        rw [add_add] at this
        rw [show (some (Value.string s) : Option Value) = [Value.string s][0]? from rfl, ← this]
        congr 1
        unfold Addr.add
        split
        · rename_i h; rw [show off + i = off by omega]
        · simp only [Addr.mk.injEq, and_true, true_and]; omega
      exact ⟨s, World.block_lt_of_cell? _ _ hcell, hcell⟩
    obtain ⟨S, hS⟩ := choose_lt (α := ByteArray) each
    refine ⟨some ⟨b, off, spot⟩, len, cap, S, rfl, ?_, fun i hi => ?_⟩
    · have : cap ≤ 9223372036854775807 := hm
      omega
    · obtain ⟨h1, h2⟩ := hS i hi
      obtain rfl := hspot (by omega)
      exact ⟨b, off, rfl, h1, h2⟩
end
end Go.Proofs.Ytincoocagfegfaa
