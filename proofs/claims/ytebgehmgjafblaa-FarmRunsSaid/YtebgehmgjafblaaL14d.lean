/- What is proved here: scripts as they lie in memory. -/
import Derived.Test.YtebgehmgjafblaaT4
set_option linter.unusedVariables false
set_option linter.unusedSimpArgs false
namespace Go.Proofs.Ytebgehmgjafblaa
open Go.RowKit
/-- A step of a script. -/
structure Stp where
  x : Tc
  room : Bool
  free : Bool
def Stp.cells (s : Stp) : List Value := [.int .i64 s.x.craft, .int .i64 s.x.chan, .bool s.x.byp, .bool s.x.ctl, .int .i64 s.x.seq, .string s.x.data, .bool s.room, .bool s.free]
def StepCells (w : World) (b o : Nat) (s : Stp) : Prop := ∀ j v, s.cells[j]? = some v → w.cell? ⟨b, o + j, none⟩ = some v
def StepsAt (w : World) (a : Option Addr) (n : Nat) (S : Nat → Stp) : Prop := ∀ i, i < n → ∃ b off, a = some ⟨b, off, none⟩ ∧ b < w.heap.size ∧ StepCells w b (off + i * 8) (S i) ∧ (S i).x.wf
def RestC (b : Nat) (w w' : World) : Prop := Below w.heap.size w w' ∧ b < w.heap.size
section
variable {w w' : World} {b o : Nat} {v0 v1 v2 v3 v4 v5 : Value}
theorem c6_below {w'' : World} (h : w'.cell? ⟨b, o, none⟩ = some v0 ∧ w'.cell? ⟨b, o + 1, none⟩ = some v1 ∧ w'.cell? ⟨b, o + 2, none⟩ = some v2 ∧ w'.cell? ⟨b, o + 3, none⟩ = some v3 ∧ w'.cell? ⟨b, o + 4, none⟩ = some v4 ∧ w'.cell? ⟨b, o + 5, none⟩ = some v5 ∧ RestC b w w') (hb : Below w'.heap.size w' w'') : w''.cell? ⟨b, o, none⟩ = some v0 ∧ w''.cell? ⟨b, o + 1, none⟩ = some v1 ∧ w''.cell? ⟨b, o + 2, none⟩ = some v2 ∧ w''.cell? ⟨b, o + 3, none⟩ = some v3 ∧ w''.cell? ⟨b, o + 4, none⟩ = some v4 ∧ w''.cell? ⟨b, o + 5, none⟩ = some v5 ∧ RestC b w w'' := by
  obtain ⟨h0, h1, h2, h3, h4, h5, hr⟩ := h
  have hlt : b < w'.heap.size := Nat.lt_of_lt_of_le hr.2 hr.1.size
  refine ⟨?_, ?_, ?_, ?_, ?_, ?_, hr.1.trans (hb.mono hr.1.size), hr.2⟩
  · rw [hb.cell (p := ⟨b, o, none⟩) hlt]; exact h0
  · rw [hb.cell (p := ⟨b, o + 1, none⟩) hlt]; exact h1
  · rw [hb.cell (p := ⟨b, o + 2, none⟩) hlt]; exact h2
  · rw [hb.cell (p := ⟨b, o + 3, none⟩) hlt]; exact h3
  · rw [hb.cell (p := ⟨b, o + 4, none⟩) hlt]; exact h4
  · rw [hb.cell (p := ⟨b, o + 5, none⟩) hlt]; exact h5
theorem c6_drew (h : w'.cell? ⟨b, o, none⟩ = some v0 ∧ w'.cell? ⟨b, o + 1, none⟩ = some v1 ∧ w'.cell? ⟨b, o + 2, none⟩ = some v2 ∧ w'.cell? ⟨b, o + 3, none⟩ = some v3 ∧ w'.cell? ⟨b, o + 4, none⟩ = some v4 ∧ w'.cell? ⟨b, o + 5, none⟩ = some v5 ∧ RestC b w w') : w'.drew.cell? ⟨b, o, none⟩ = some v0 ∧ w'.drew.cell? ⟨b, o + 1, none⟩ = some v1 ∧ w'.drew.cell? ⟨b, o + 2, none⟩ = some v2 ∧ w'.drew.cell? ⟨b, o + 3, none⟩ = some v3 ∧ w'.drew.cell? ⟨b, o + 4, none⟩ = some v4 ∧ w'.drew.cell? ⟨b, o + 5, none⟩ = some v5 ∧ RestC b w w'.drew := c6_below h (Below.refl _ _).drew
theorem c6_alloc (x : Obj) (h : w'.cell? ⟨b, o, none⟩ = some v0 ∧ w'.cell? ⟨b, o + 1, none⟩ = some v1 ∧ w'.cell? ⟨b, o + 2, none⟩ = some v2 ∧ w'.cell? ⟨b, o + 3, none⟩ = some v3 ∧ w'.cell? ⟨b, o + 4, none⟩ = some v4 ∧ w'.cell? ⟨b, o + 5, none⟩ = some v5 ∧ RestC b w w') : (w'.alloc x).cell? ⟨b, o, none⟩ = some v0 ∧ (w'.alloc x).cell? ⟨b, o + 1, none⟩ = some v1 ∧ (w'.alloc x).cell? ⟨b, o + 2, none⟩ = some v2 ∧ (w'.alloc x).cell? ⟨b, o + 3, none⟩ = some v3 ∧ (w'.alloc x).cell? ⟨b, o + 4, none⟩ = some v4 ∧ (w'.alloc x).cell? ⟨b, o + 5, none⟩ = some v5 ∧ RestC b w (w'.alloc x) := c6_below h ((Below.refl _ _).alloc (Nat.le_refl _) _)
end
end Go.Proofs.Ytebgehmgjafblaa
