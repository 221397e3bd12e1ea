/- What is proved here: the table of the kinds of units. -/
import Derived.Test.YtkpgenmlpkfokaaN4
import Derived.Laws.EntriesVeiled
import Derived.Deep.MidRow
set_option linter.unusedVariables false
set_option linter.unusedSimpArgs false
namespace Go.Proofs.Ytkpgenmlpkfokaa
open Go.RowKit
def fOnly : Nat → FuncId
  | 1 => 39 | 2 => 44 | 3 => 48 | 4 => 53 | 5 => 57 | _ => 62
def fValid : Nat → FuncId
  | 1 => 40 | 2 => 45 | 3 => 49 | 4 => 54 | 5 => 58 | _ => 63
def fPut : Nat → FuncId
  | 1 => 41 | 2 => 46 | 3 => 50 | 4 => 55 | 5 => 60 | _ => 64
def fGet : Nat → FuncId
  | 1 => 42 | 2 => 47 | 3 => 52 | 4 => 56 | 5 => 61 | _ => 65
def fv (f : FuncId) : Value := .func (.func f) #[] #[]
def kindV (k : Nat) : Value := .agg #[fv (fOnly k), fv (fValid k), fv (fPut k), fv (fGet k)]
def tabL : List Value := [.nilFunc, .nilFunc, .nilFunc, .nilFunc, fv 39, fv 40, fv 41, fv 42, fv 44, fv 45, fv 46, fv 47, fv 48, fv 49, fv 50, fv 52, fv 53, fv 54, fv 55, fv 56, fv 57, fv 58, fv 60, fv 61, fv 62, fv 63, fv 64, fv 65]
def tabV : Value := .agg tabL.toArray
set_option maxRecDepth 100000 in
theorem tab_at (k : Nat) (h1 : 1 ≤ k) (h6 : k ≤ 6) (W : World) : (Instr.index 55 tabV (.int .i64 (k : Int))).run Try.prog W = .ok (kindV k) W := by
  have t1 : (Instr.index 55 tabV (.int .i64 1)).run Try.prog W = .ok (kindV 1) W := by kernel_rfl
  have t2 : (Instr.index 55 tabV (.int .i64 2)).run Try.prog W = .ok (kindV 2) W := by kernel_rfl
  have t3 : (Instr.index 55 tabV (.int .i64 3)).run Try.prog W = .ok (kindV 3) W := by kernel_rfl
  have t4 : (Instr.index 55 tabV (.int .i64 4)).run Try.prog W = .ok (kindV 4) W := by kernel_rfl
  have t5 : (Instr.index 55 tabV (.int .i64 5)).run Try.prog W = .ok (kindV 5) W := by kernel_rfl
  have t6 : (Instr.index 55 tabV (.int .i64 6)).run Try.prog W = .ok (kindV 6) W := by kernel_rfl
  match k, h1, h6 with
  | 1, _, _ => exact t1
  | 2, _, _ => exact t2
  | 3, _, _ => exact t3
  | 4, _, _ => exact t4
  | 5, _, _ => exact t5
  | 6, _, _ => exact t6
theorem blk_setCells (b : Nat) (t : TypeId) : ∀ (vs pre old : List Value) (w : World), old.length = vs.length → Blk w b (pre ++ old) t → Blk (w.setCells b pre.length vs) b (pre ++ vs) t
  | [], pre, old, w, hl, h => by
    obtain rfl : old = [] := List.eq_nil_of_length_eq_zero (by simpa using hl)
    exact h
  | v :: vs, pre, [], w, hl, h => by simp at hl
  | v :: vs, pre, x :: old, w, hl, h => by
    have h2 := h.set pre.length v
    have e : (pre ++ x :: old).set pre.length v = (pre ++ [v]) ++ old := by simp
    rw [e] at h2
    have := blk_setCells b t vs (pre ++ [v]) old (w.setCell ⟨b, pre.length, none⟩ v) (by simpa using hl) h2
    rw [show (pre ++ [v]).length = pre.length + 1 by simp, List.append_assoc] at this
    exact this
theorem keep_setCells (b : Nat) (S : List Nat) : ∀ (vs : List Value) (o : Nat) (a w : World), Keep S a w → (b ∈ S ∨ a.heap.size ≤ b) → Keep S a (w.setCells b o vs)
  | [], _, _, _, h, _ => h
  | v :: vs, o, a, w, h, hb => keep_setCells b S vs (o + 1) a _ (h.setCell hb v) hb
/-- A value of many cells is stored in a block of the call's own. -/
theorem store_blk {ops : Array Oper} {rest : List Oper} {op : Oper} {a : Act} {w : World} {Q : Exit → Act → World → Prop} (hgd : op.guard = none) (ty : TypeId) (x y : Operand) (ho : op.op = .store ty x y)
    (b : Nat) (t : TypeId) (old news : List Value) (hx : a.eval x = .pointer (some ⟨b, 0, none⟩)) (hy : a.eval y = .agg news.toArray) (hB : Blk w b old t) (hl : old.length = news.length)
    (hi : (Try.prog.info? ty).map (·.size) = some news.length) (h1 : news.toArray.all (·.oneCell') = true)
    (h : ∀ w', Blk w' b news t → Keep [b] w w' → wpList Try.prog ops Q rest (a.put op.dst undef) w') : wpList Try.prog ops Q (op :: rest) a w := by
  refine wpList_store_mid hgd ty x y ho b 0 news.toArray hx hy (fun j hj => ⟨?_, ?_⟩) (by simpa using hi) h1 ?_
  · have hj : j < old.length := by simp at hj; omega
    rw [Nat.zero_add, hB.cell j, List.getElem?_eq_getElem hj]; rfl
  · rw [Nat.zero_add]; exact hB.free j
  · exact h _ (blk_setCells b t news [] old w hl hB) (keep_setCells b [b] news 0 w w (Keep.refl _ _) (.inl (by simp)))
def nils : List Value := List.replicate 28 .nilFunc
set_option maxHeartbeats 4000000 in
set_option maxRecDepth 100000 in
theorem ukinds_any (w : World) : Calls Try.prog 26 #[] w fun e w' => e = .returned tabV ∧ Below w.heap.size w w' := by
  have HB := Lib.hid (Blk.new w nils 55)
  unfold nils at HB
  simp only [List.replicate] at HB
  go_enter Try.func26, Try.ntmps26
  go_wp2_with (refine store_blk rfl _ _ _ rfl w.heap.size 55 _ tabL rfl (by kernel_rfl) HB.out rfl (by kernel_rfl) (by kernel_rfl) ?_)
  intro w1 hB1 hK1
  have HB1 := Lib.hid hB1
  have HL1 := Lib.hid (((Below.refl w.heap.size w).alloc (Nat.le_refl _) (Obj.cells #[.nilFunc, .nilFunc, .nilFunc, .nilFunc, .nilFunc, .nilFunc, .nilFunc, .nilFunc, .nilFunc, .nilFunc, .nilFunc, .nilFunc, .nilFunc, .nilFunc, .nilFunc, .nilFunc, .nilFunc, .nilFunc, .nilFunc, .nilFunc, .nilFunc, .nilFunc, .nilFunc, .nilFunc, .nilFunc, .nilFunc, .nilFunc, .nilFunc] 55)).trans (hK1.toBelowAt (by simp) (by simp)))
  clear hB1 hK1 HB
  go_wp2_with fail
  refine ret_cell rfl w.heap.size 55 tabL rfl HB1.out Try.underlying55 rfl (by kernel_rfl) rfl ?_
  exact ⟨rfl, HL1.out⟩
end Go.Proofs.Ytkpgenmlpkfokaa
