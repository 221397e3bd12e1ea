/- What is proved here: lemmas on worlds: what stays where only some blocks may have changed; what a block holds behind a store. No condition. -/
import Derived.Test.YtbncejmohhejlaaWords
set_option linter.unusedVariables false
set_option linter.unusedSimpArgs false
namespace Go.Proofs.Ytbncejmohhejlaa
open Go.RowKit

/-- Outside the blocks S, and below the size that the heap had, nothing has changed. -/
structure Keep (S : List Nat) (w w' : World) : Prop where
  os : w'.os = w.os
  tape : w'.tape = w.tape
  output : w'.output = w.output
  size : w.heap.size ≤ w'.heap.size
  block : ∀ k, k < w.heap.size → k ∉ S → w'.heap[k]? = w.heap[k]?

namespace Keep
theorem refl (S : List Nat) (w : World) : Keep S w w := ⟨rfl, rfl, rfl, Nat.le_refl _, fun _ _ _ => rfl⟩
theorem trans {S : List Nat} {a b c : World} (h : Keep S a b) (k : Keep S b c) : Keep S a c :=
  ⟨k.os.trans h.os, k.tape.trans h.tape, k.output.trans h.output, Nat.le_trans h.size k.size,
    fun i hi hn => (k.block i (Nat.lt_of_lt_of_le hi h.size) hn).trans (h.block i hi hn)⟩
/-- Two steps, of which the second may also touch what is new. -/
theorem trans_new {S T : List Nat} {a b c : World} (h : Keep S a b) (k : Keep T b c) (ht : ∀ i, i ∈ T → i ∈ S ∨ a.heap.size ≤ i) : Keep S a c :=
  ⟨k.os.trans h.os, k.tape.trans h.tape, k.output.trans h.output, Nat.le_trans h.size k.size,
    fun i hi hn => (k.block i (Nat.lt_of_lt_of_le hi h.size) (fun e => by rcases ht i e with g | g; exact hn g; omega)).trans (h.block i hi hn)⟩
theorem mono {S T : List Nat} {a b : World} (h : Keep S a b) (hs : ∀ i, i ∈ S → i ∈ T) : Keep T a b :=
  ⟨h.os, h.tape, h.output, h.size, fun i hi hn => h.block i hi (fun e => hn (hs i e))⟩
theorem drew {S : List Nat} {a w : World} (h : Keep S a w) : Keep S a w.drew := ⟨h.os, h.tape, h.output, h.size, h.block⟩
theorem drewN {S : List Nat} {a w : World} (h : Keep S a w) (n : Nat) : Keep S a (w.drewN n) := ⟨h.os, h.tape, h.output, h.size, h.block⟩
theorem alloc {S : List Nat} {a w : World} (h : Keep S a w) (o : Obj) : Keep S a (w.alloc o) :=
  ⟨h.os, h.tape, h.output, Nat.le_trans h.size (by simp), fun i hi hn => (Below.heap_alloc w o i (Nat.lt_of_lt_of_le hi h.size)).trans (h.block i hi hn)⟩
theorem setCell {S : List Nat} {a w : World} (h : Keep S a w) {p : Addr} (hp : p.block ∈ S ∨ a.heap.size ≤ p.block) (u : Value) : Keep S a (w.setCell p u) :=
  ⟨h.os, h.tape, h.output, by simpa [World.setCell] using h.size, fun i hi hn => (Below.heap_setCell w p u i (by
    rintro rfl
    rcases hp with hp | hp
    · exact hn hp
    · omega)).trans (h.block i hi hn)⟩
theorem below {S : List Nat} {a w w' : World} (h : Keep S a w) {B : Nat} (hb : Below B w w') (hB : a.heap.size ≤ B) : Keep S a w' :=
  ⟨hb.os.trans h.os, hb.tape.trans h.tape, hb.output.trans h.output, Nat.le_trans h.size hb.size,
    fun i hi hn => (hb.block i (by omega)).trans (h.block i hi hn)⟩
theorem grown {S : List Nat} {a w w' : World} {row : Option Nat} (h : Keep S a w) (hg : w.grownBy w' row) (hr : ∀ k, row = some k → k ∈ S ∨ a.heap.size ≤ k) : Keep S a w' :=
  ⟨hg.os.trans h.os, hg.tape.trans h.tape, hg.output.trans h.output, Nat.le_trans h.size hg.size,
    fun i hi hn => (hg.block i (Nat.lt_of_lt_of_le hi h.size) (fun e => by rcases hr i e.symm with g | g; exact hn g; omega)).trans (h.block i hi hn)⟩
theorem toBelow {a w : World} (h : Keep [] a w) : Below a.heap.size a w := ⟨h.os, h.tape, h.output, h.size, fun i hi => h.block i hi (by simp)⟩
theorem cell {S : List Nat} {a w : World} (h : Keep S a w) {p : Addr} (hl : p.block < a.heap.size) (hn : p.block ∉ S) : w.cell? p = a.cell? p := World.cell?_of_block (w := a) (h.block _ hl hn)
theorem frozen {S : List Nat} {a w : World} (h : Keep S a w) {p : Addr} (hl : p.block < a.heap.size) (hn : p.block ∉ S) : w.frozen? p = a.frozen? p := World.frozen?_of_block (w := a) (h.block _ hl hn)
end Keep

/-- Block b is an ordinary one that holds these values. -/
def Blk (w : World) (b : Nat) (vs : List Value) (t : TypeId) : Prop := w.heap[b]? = some (.cells vs.toArray t (0, 0))
namespace Blk
theorem lt {w : World} {b : Nat} {vs : List Value} {t : TypeId} (h : Blk w b vs t) : b < w.heap.size := by
  unfold Blk at h; exact (Array.getElem?_eq_some_iff.1 h).1
theorem cell {w : World} {b : Nat} {vs : List Value} {t : TypeId} (h : Blk w b vs t) (i : Nat) : w.cell? ⟨b, i, none⟩ = vs[i]? := by
  unfold Blk at h; simp [World.cell?, h]
theorem free {w : World} {b : Nat} {vs : List Value} {t : TypeId} (h : Blk w b vs t) (i : Nat) : w.frozen? ⟨b, i, none⟩ = false := by
  unfold Blk at h; simp [World.frozen?, h]
theorem set {w : World} {b : Nat} {vs : List Value} {t : TypeId} (h : Blk w b vs t) (i : Nat) (u : Value) : Blk (w.setCell ⟨b, i, none⟩ u) b (vs.set i u) t := by
  unfold Blk at *
  have hlt := (Array.getElem?_eq_some_iff.1 h).1
  simp [World.setCell, Array.getElem?_modify, h]
theorem set_far {w : World} {b : Nat} {vs : List Value} {t : TypeId} (h : Blk w b vs t) {p : Addr} (hp : b ≠ p.block) (u : Value) : Blk (w.setCell p u) b vs t := by
  unfold Blk at *; rw [Below.heap_setCell _ _ _ _ hp]; exact h
theorem drew {w : World} {b : Nat} {vs : List Value} {t : TypeId} (h : Blk w b vs t) : Blk w.drew b vs t := h
theorem drewN {w : World} {b : Nat} {vs : List Value} {t : TypeId} (h : Blk w b vs t) (n : Nat) : Blk (w.drewN n) b vs t := h
theorem alloc {w : World} {b : Nat} {vs : List Value} {t : TypeId} (h : Blk w b vs t) (o : Obj) : Blk (w.alloc o) b vs t := by
  have := h.lt; unfold Blk at *; rw [Below.heap_alloc _ _ _ this]; exact h
theorem new (w : World) (vs : List Value) (t : TypeId) : Blk (w.alloc (.cells vs.toArray t)) w.heap.size vs t := by
  unfold Blk World.alloc; simp
theorem new_at (w : World) (vs : List Value) (t : TypeId) (g : Nat) (hg : g = w.heap.size) : Blk (w.alloc (.cells vs.toArray t)) g vs t := by
  subst hg; exact new w vs t
theorem keep {S : List Nat} {w w' : World} {b : Nat} {vs : List Value} {t : TypeId} (h : Blk w b vs t) (k : Keep S w w') (hn : b ∉ S) : Blk w' b vs t := by
  have := h.lt; unfold Blk at *; rw [k.block b this hn]; exact h
theorem below {w w' : World} {b B : Nat} {vs : List Value} {t : TypeId} (h : Blk w b vs t) (k : Below B w w') (hb : b < B) : Blk w' b vs t := by
  unfold Blk at *; rw [k.block b hb]; exact h
end Blk
end Go.Proofs.Ytbncejmohhejlaa
