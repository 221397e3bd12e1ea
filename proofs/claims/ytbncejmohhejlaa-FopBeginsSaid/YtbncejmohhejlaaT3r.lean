/- What is proved here: the walk of the reference's Put. -/
import Derived.Test.YtbncejmohhejlaaT3
import Derived.Deep.RegionHeld3
import Derived.Deep.RegionWith
import Derived.IntWalk
set_option linter.unusedVariables false
set_option linter.unusedSimpArgs false
namespace Go.Proofs.Ytbncejmohhejlaa
open Go.RowKit
def RestP (w w' : World) : Prop := Below w.heap.size w w' ∧ w.heap.size + 1 ≤ w'.heap.size
theorem gen_post {F : Exit → Act → World → Prop} {a : Act} {W : World} (φ : World → Prop) (h : φ W) (g : ∀ w, φ w → F .normal a w) : F .normal a W := g W h
theorem rest_of {A B C : Prop} {w w' : World} (h : A ∧ B ∧ C ∧ RestP w w') : RestP w w' := h.2.2.2
theorem held_below {w w' w'' : World} {v1 v4 v5 : Value} (h : w'.cell? ⟨w.heap.size, 1, none⟩ = some v1 ∧ w'.cell? ⟨w.heap.size, 4, none⟩ = some v4 ∧ w'.cell? ⟨w.heap.size, 5, none⟩ = some v5 ∧ RestP w w') (hb : Below w'.heap.size w' w'') :
    w''.cell? ⟨w.heap.size, 1, none⟩ = some v1 ∧ w''.cell? ⟨w.heap.size, 4, none⟩ = some v4 ∧ w''.cell? ⟨w.heap.size, 5, none⟩ = some v5 ∧ RestP w w'' := by
  obtain ⟨h1, h4, h5, hr⟩ := h
  have hlt : w.heap.size < w'.heap.size := hr.2
  refine ⟨?_, ?_, ?_, hr.1.trans (hb.mono hr.1.size), by have := hb.size; have := hr.2; omega⟩
  · rw [hb.cell (p := ⟨w.heap.size, 1, none⟩) hlt]; exact h1
  · rw [hb.cell (p := ⟨w.heap.size, 4, none⟩) hlt]; exact h4
  · rw [hb.cell (p := ⟨w.heap.size, 5, none⟩) hlt]; exact h5
theorem held_drew {w w' : World} {v1 v4 v5 : Value} (h : w'.cell? ⟨w.heap.size, 1, none⟩ = some v1 ∧ w'.cell? ⟨w.heap.size, 4, none⟩ = some v4 ∧ w'.cell? ⟨w.heap.size, 5, none⟩ = some v5 ∧ RestP w w') :
    w'.drew.cell? ⟨w.heap.size, 1, none⟩ = some v1 ∧ w'.drew.cell? ⟨w.heap.size, 4, none⟩ = some v4 ∧ w'.drew.cell? ⟨w.heap.size, 5, none⟩ = some v5 ∧ RestP w w'.drew := held_below h (Below.refl _ _).drew
theorem held_alloc {w w' : World} {v1 v4 v5 : Value} (o : Obj) (h : w'.cell? ⟨w.heap.size, 1, none⟩ = some v1 ∧ w'.cell? ⟨w.heap.size, 4, none⟩ = some v4 ∧ w'.cell? ⟨w.heap.size, 5, none⟩ = some v5 ∧ RestP w w') :
    (w'.alloc o).cell? ⟨w.heap.size, 1, none⟩ = some v1 ∧ (w'.alloc o).cell? ⟨w.heap.size, 4, none⟩ = some v4 ∧ (w'.alloc o).cell? ⟨w.heap.size, 5, none⟩ = some v5 ∧ RestP w (w'.alloc o) := held_below h ((Below.refl _ _).alloc (Nat.le_refl _) _)
end Go.Proofs.Ytbncejmohhejlaa
