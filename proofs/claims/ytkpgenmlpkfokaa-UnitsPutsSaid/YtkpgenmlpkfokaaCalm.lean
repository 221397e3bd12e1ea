/- What is proved here: regions that draw their order, whose operations read old blocks and whose calls make memory alone: one walk in the text's order serves every order. No condition. -/
import Derived.Test.YtkpgenmlpkfokaaMem
import Derived.Deep.Quiet
import Derived.Deep.QuietTactic
import Derived.BigQuiet
set_option linter.unusedVariables false
set_option linter.unusedSimpArgs false
namespace Go.Proofs.Ytkpgenmlpkfokaa
open Go.RowKit
/-- A world in which the blocks below B are as in w. -/
structure Cl (B : Nat) (w : World) where
  val : World
  below : Below B w val
instance (B : Nat) (w : World) : Nonempty (Cl B w) := ⟨⟨w, Below.refl B w⟩⟩
theorem region_calm {P : Program} {id : Nat} {Q : Exit → Act → World → Prop} {a : Act} {w : World} {l : List Oper} (B : Nat) (hm : P.follows .mixedOrders = true) (hB : Region.lexB .any l.toArray = true)
    (h : wpQuiet P l.toArray (fun W => ∃ x : Cl B w, W = x.val) (fun a' => ∀ W, Below B w W → Q .normal a' W) l a) : (Code.region id l.toArray true).wp P Q a w := by
  refine wp_region_quiet (C := fun W => ∃ x : Cl B w, W = x.val) hm hB ⟨⟨w.drew, (Below.refl B w).drew⟩, rfl⟩ ?_
  have e : (fun a' => ∀ w', (∃ x : Cl B w, w' = x.val) → Q .normal a' w') = (fun a' => ∀ W, Below B w W → Q .normal a' W) := by
    funext a'
    exact propext ⟨fun g W hW => g W ⟨⟨W, hW⟩, rfl⟩, fun g W ⟨x, hx⟩ => g W (hx ▸ x.below)⟩
  rw [e]
  simpa using h
theorem cl_call {P : Program} {f : FuncId} {args : Array Value} {w : World} {B : Nat} {v : Value} (x : Cl B w) (hB : B ≤ w.heap.size)
    (h : Calls P f args x.val fun e w' => e = .returned v ∧ Below x.val.heap.size x.val w') : Calls P f args x.val fun e w' => e = .returned v ∧ ∃ y : Cl B w, w' = y.val :=
  h.mono fun _ W ⟨he, hb⟩ => ⟨he, ⟨W, x.below.trans (hb.mono (Nat.le_trans hB x.below.size))⟩, rfl⟩
theorem cl_call_same {P : Program} {f : FuncId} {args : Array Value} {w : World} {B : Nat} {v : Value} (x : Cl B w)
    (h : Calls P f args x.val fun e w' => e = .returned v ∧ x.val = w') : Calls P f args x.val fun e w' => e = .returned v ∧ ∃ y : Cl B w, w' = y.val :=
  h.mono fun _ _ ⟨he, hb⟩ => ⟨he, x, hb.symm⟩
theorem cl_blk {w : World} {b : Nat} {vs : List Value} {t : TypeId} (h : Blk w b vs t) (i : Nat) (x : Cl w.heap.size w) : x.val.cell? ⟨b, i, none⟩ = vs[i]? := (h.below x.below h.lt).cell i
end Go.Proofs.Ytkpgenmlpkfokaa
