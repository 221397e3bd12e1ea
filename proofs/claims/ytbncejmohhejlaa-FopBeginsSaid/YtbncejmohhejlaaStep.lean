/- What is proved here: steps of regions that draw their order: a call by its contract, an append to a row of bytes. No condition. -/
import Derived.Test.YtbncejmohhejlaaRow
import Derived.Deep.RegionLaw
set_option linter.unusedVariables false
set_option linter.unusedSimpArgs false
namespace Go.Proofs.Ytbncejmohhejlaa
open Go.RowKit
section
variable {P : Program}
theorem step_call {ops : Array Oper} {o : Oper} {a : Act} {w : World} {K : Act → World → Prop} {Q : Exit → Act → World → Prop} {E : Prop}
    (hg : o.guard = none) (f : FuncId) (ops' : Array Operand) (ts : Array TypeId) (hop : o.op = Op.call { callee := Callee.value (Operand.func f), args := ops', argTypes := ts }) (args : Array Value) (hrun : (execOp a.eval o).run P w = .ok (.enter f args) w) (R : Value → World → Prop) (hc : Calls P f args w fun e w' => ∃ v, e = .returned v ∧ R v w')
    (hK : ∀ v w', R v w' → K (a.put o.dst v) w') :
    if Region.wanted o (yielded ops a.tmps) = true then Oper.wp P o a w K Q else E := by
  have hw : Region.wanted o (yielded ops a.tmps) = true := by simp [Region.wanted, hg]
  rw [if_pos hw]
  unfold Oper.wp
  rw [hrun, Oper.upon_enter]
  refine hc.mono fun e w'' hh => ?_
  obtain ⟨v, rfl, hR⟩ := hh
  exact hK _ _ hR
end
theorem step_append_row {ops : Array Oper} {o : Oper} {a : Act} {w : World} {K : Act → World → Prop} {Q : Exit → Act → World → Prop} {E : Prop}
    (hg : o.guard = none) (s x : Operand) (hop : o.op = Op.call { callee := Callee.builtin Builtin.append, args := #[s, x], argTypes := #[51, 51] })
    (base : Nat) (v : Value) (xs : List UInt8) (hs : a.eval s = v) (hrow : Row w base v xs) (g : Nat) (c : UInt8) (hx : a.eval x = .slice (some ⟨g, 0, none⟩) 1 1) (hc : w.cell? ⟨g, 0, none⟩ = some (vb c))
    (hlen : xs.length + 1 ≤ 140737488355328) (hbase : base ≤ w.heap.size)
    (hK : ∀ v' w', Row w' base v' (xs ++ [c]) → Keep v.ownBlock.toList w w' → K (a.put o.dst v') w') :
    if Region.wanted o (yielded ops a.tmps) = true then Oper.wp Try.prog o a w K Q else E := by
  have hw : Region.wanted o (yielded ops a.tmps) = true := by simp [Region.wanted, hg]
  rw [if_pos hw]
  obtain ⟨i0, hi, hz0, hz1, hz2⟩ := info_parts info_u8
  have hfx : (Builtin.lenOf (.slice (some ⟨g, 0, none⟩) 1 1)).run Try.prog w = .ok [c].length w := rfl
  have hf := firsts_slice (P := Try.prog) w [c] ⟨g, 0, none⟩ 1 (fun j u hj => by
    cases j with
    | zero =>
      simp at hj; subst hj
      exact hc
    | succ j => simp at hj)
  obtain ⟨v', w', hr, h2, h3⟩ := run_append_row (P := Try.prog) w base 51 51 o.type i0 _ Try.underlying51 Try.underlying51 (.inr ⟨_, rfl⟩) hi hz0 hz1 hz2 v xs hrow _ [c] hfx hf hlen hbase
  unfold Oper.wp execOp
  simp only [hop, resolve, invoke, builtin, Sem.run_bind, Sem.run_pure, Result.andThen_ok, List.map_toArray, List.map_cons, List.map_nil, hs, hx, hr]
  exact hK _ _ h2 h3
theorem step_append_slice {ops : Array Oper} {o : Oper} {a : Act} {w : World} {K : Act → World → Prop} {Q : Exit → Act → World → Prop} {E : Prop}
    (hg : o.guard = none) (s x : Operand) (hop : o.op = Op.call { callee := Callee.builtin Builtin.append, args := #[s, x], argTypes := #[51, 51] })
    (base : Nat) (v : Value) (xs : List UInt8) (hs : a.eval s = v) (hrow : Row w base v xs) (base' : Nat) (x' : Value) (news : List UInt8) (hx : a.eval x = x') (hrow' : Row w base' x' news)
    (hlen : xs.length + news.length ≤ 140737488355328) (hbase : base ≤ w.heap.size)
    (hK : ∀ v' w', Row w' base v' (xs ++ news) → Keep v.ownBlock.toList w w' → K (a.put o.dst v') w') :
    if Region.wanted o (yielded ops a.tmps) = true then Oper.wp Try.prog o a w K Q else E := by
  have hw : Region.wanted o (yielded ops a.tmps) = true := by simp [Region.wanted, hg]
  rw [if_pos hw]
  obtain ⟨i0, hi, hz0, hz1, hz2⟩ := info_parts info_u8
  have hfx : (Builtin.lenOf x').run Try.prog w = .ok news.length w := by
    obtain ⟨a', cap, rfl⟩ := row_form hrow'; rfl
  have hf : ∀ w' : World, w'.heap = w.heap → (Builtin.firstCells 1 news.length x').run Try.prog w' = .ok (news.map vb).toArray w' := by
    intro w' hw'
    have hr2 := hrow'
    rcases hrow' with ⟨rfl, rfl⟩ | ⟨g, cap, cur, fr, rfl, _⟩
    · simp [Builtin.firstCells]
    · exact firsts_slice w news ⟨g, 0, none⟩ cap (fun j u hj => by
        have hadd : (⟨g, 0, none⟩ : Addr).add j = ⟨g, j, none⟩ := by unfold Addr.add; split <;> simp_all
        rw [hadd]; exact row_cells hr2 rfl j u hj) w' hw'
  obtain ⟨v', w', hr, h2, h3⟩ := run_append_row (P := Try.prog) w base 51 51 o.type i0 _ Try.underlying51 Try.underlying51 (.inr ⟨_, rfl⟩) hi hz0 hz1 hz2 v xs hrow _ news hfx hf hlen hbase
  unfold Oper.wp execOp
  simp only [hop, resolve, invoke, builtin, Sem.run_bind, Sem.run_pure, Result.andThen_ok, List.map_toArray, List.map_cons, List.map_nil, hs, hx, hr]
  exact hK _ _ h2 h3
theorem step_append_string {ops : Array Oper} {o : Oper} {a : Act} {w : World} {K : Act → World → Prop} {Q : Exit → Act → World → Prop} {E : Prop}
    (hg : o.guard = none) (s x : Operand) (hop : o.op = Op.call { callee := Callee.builtin Builtin.append, args := #[s, x], argTypes := #[51, 9] })
    (base : Nat) (v : Value) (xs : List UInt8) (hs : a.eval s = v) (hrow : Row w base v xs) (b : ByteArray) (hx : a.eval x = .string b)
    (hlen : xs.length + b.size ≤ 140737488355328) (hbase : base ≤ w.heap.size)
    (hK : ∀ v' w', Row w' base v' (xs ++ b.data.toList) → Keep v.ownBlock.toList w w' → K (a.put o.dst v') w') :
    if Region.wanted o (yielded ops a.tmps) = true then Oper.wp Try.prog o a w K Q else E := by
  have hw : Region.wanted o (yielded ops a.tmps) = true := by simp [Region.wanted, hg]
  rw [if_pos hw]
  obtain ⟨i0, hi, hz0, hz1, hz2⟩ := info_parts info_u8
  have hfx : (Builtin.lenOf (.string b)).run Try.prog w = .ok b.data.toList.length w := by simp [Builtin.lenOf]
  obtain ⟨v', w', hr, h2, h3⟩ := run_append_row (P := Try.prog) w base 51 9 o.type i0 _ Try.underlying51 Try.underlying9 (.inl rfl) hi hz0 hz1 hz2 v xs hrow _ b.data.toList hfx (firsts_string w b) (by simpa using hlen) hbase
  unfold Oper.wp execOp
  simp only [hop, resolve, invoke, builtin, Sem.run_bind, Sem.run_pure, Result.andThen_ok, List.map_toArray, List.map_cons, List.map_nil, hs, hx, hr]
  exact hK _ _ h2 h3
end Go.Proofs.Ytbncejmohhejlaa
