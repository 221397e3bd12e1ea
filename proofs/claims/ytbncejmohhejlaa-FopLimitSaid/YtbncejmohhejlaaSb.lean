/- What is proved here: a value of many cells is stored in a block of the call's own. No condition. -/
import Derived.Test.YtbncejmohhejlaaKit
import Derived.Deep.MidRow
set_option linter.unusedVariables false
set_option linter.unusedSimpArgs false
namespace Go.Proofs.Ytbncejmohhejlaa
open Go.RowKit
theorem blk_setCells (b : Nat) (t : TypeId) : ∀ (vs pre old : List Value) (w : World), old.length = vs.length → Blk w b (pre ++ old) t → Blk (w.setCells b pre.length vs) b (pre ++ vs) t
  | [], pre, old, w, hl, h => by
    obtain rfl : old = [] := List.eq_nil_of_length_eq_zero (by simpa using hl)
    exact h
  | v :: vs, pre, [], w, hl, h => by simp at hl
  | v :: vs, pre, x :: old, w, hl, h => by
    have h2 := h.set pre.length v
    have e : (pre ++ x :: old).set pre.length v = (pre ++ [v]) ++ old := by simp
    rw [e] at h2
    have := blk_setCells b t vs (pre ++ [v]) old (w.setCell ⟨b, pre.length, none⟩ v) (by simpa using hl) h2
    rw [show (pre ++ [v]).length = pre.length + 1 by simp, List.append_assoc] at this
    exact this
theorem keep_setCells (b : Nat) (S : List Nat) : ∀ (vs : List Value) (o : Nat) (a w : World), Keep S a w → (b ∈ S ∨ a.heap.size ≤ b) → Keep S a (w.setCells b o vs)
  | [], _, _, _, h, _ => h
  | v :: vs, o, a, w, h, hb => keep_setCells b S vs (o + 1) a _ (h.setCell hb v) hb
/-- A value of many cells is stored in a block of the call's own. -/
theorem store_blk {ops : Array Oper} {rest : List Oper} {op : Oper} {a : Act} {w : World} {Q : Exit → Act → World → Prop} (hgd : op.guard = none) (ty : TypeId) (x y : Operand) (ho : op.op = .store ty x y)
    (b : Nat) (t : TypeId) (old news : List Value) (hx : a.eval x = .pointer (some ⟨b, 0, none⟩)) (hy : a.eval y = .agg news.toArray) (hB : Blk w b old t) (hl : old.length = news.length)
    (hi : (Try.prog.info? ty).map (·.size) = some news.length) (h1 : news.toArray.all (·.oneCell') = true)
    (h : ∀ w', Blk w' b news t → Keep [b] w w' → wpList Try.prog ops Q rest (a.put op.dst undef) w') : wpList Try.prog ops Q (op :: rest) a w := by
  refine wpList_store_mid hgd ty x y ho b 0 news.toArray hx hy (fun j hj => ⟨?_, ?_⟩) (by simpa using hi) h1 ?_
  · have hj : j < old.length := by simp at hj; omega
    rw [Nat.zero_add, hB.cell j, List.getElem?_eq_getElem hj]; rfl
  · rw [Nat.zero_add]; exact hB.free j
  · exact h _ (blk_setCells b t news [] old w hl hB) (keep_setCells b [b] news 0 w w (Keep.refl _ _) (.inl (by simp)))
/-- The same as a step of a region that draws its order. -/
theorem step_store_blk {ops : Array Oper} {op : Oper} {a : Act} {w : World} {K : Act → World → Prop} {Q : Exit → Act → World → Prop} {E : Prop} (hgd : op.guard = none) (ty : TypeId) (x y : Operand) (ho : op.op = .store ty x y)
    (b : Nat) (t : TypeId) (old news : List Value) (hx : a.eval x = .pointer (some ⟨b, 0, none⟩)) (hy : a.eval y = .agg news.toArray) (hB : Blk w b old t) (hl : old.length = news.length)
    (hi : (Try.prog.info? ty).map (·.size) = some news.length) (h1 : news.toArray.all (·.oneCell') = true)
    (h : ∀ w', Blk w' b news t → Keep [b] w w' → K (a.put op.dst undef) w') : if Region.wanted op (yielded ops a.tmps) = true then Oper.wp Try.prog op a w K Q else E := by
  have hw : Region.wanted op (yielded ops a.tmps) = true := by simp [Region.wanted, hgd]
  rw [if_pos hw]
  refine wp_store_mid ty x y ho b 0 news.toArray hx hy (fun j hj => ⟨?_, ?_⟩) (by simpa using hi) h1 ?_
  · have hj : j < old.length := by simp at hj; omega
    rw [Nat.zero_add, hB.cell j, List.getElem?_eq_getElem hj]; rfl
  · rw [Nat.zero_add]; exact hB.free j
  · exact h _ (blk_setCells b t news [] old w hl hB) (keep_setCells b [b] news 0 w w (Keep.refl _ _) (.inl (by simp)))
end Go.Proofs.Ytbncejmohhejlaa
