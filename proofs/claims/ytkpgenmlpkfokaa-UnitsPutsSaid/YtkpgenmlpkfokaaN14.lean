/- What is proved here: steps of regions: a call of a function value; an append to a slice without room. -/
import Derived.Test.YtkpgenmlpkfokaaN13
set_option linter.unusedVariables false
set_option linter.unusedSimpArgs false
namespace Go.Proofs.Ytkpgenmlpkfokaa
open Go.RowKit
theorem step_call_dyn {ops : Array Oper} {o : Oper} {a : Act} {w : World} {K : Act → World → Prop} {Q : Exit → Act → World → Prop} {E : Prop}
    (hg : o.guard = none) (c : Operand) (x : Operand) (ts : Array TypeId) (hop : o.op = Op.call { callee := Callee.value c, args := #[x], argTypes := ts }) (f : FuncId) (arg : Value) (hc0 : a.eval c = .func (.func f) #[] #[]) (hx : a.eval x = arg)
    (hcf : (callFunc f #[arg]).run Try.prog w = .ok (.enter f #[arg]) w) (R : Value → World → Prop) (hc : Calls Try.prog f #[arg] w fun e w' => ∃ v, e = .returned v ∧ R v w')
    (hK : ∀ v w', R v w' → K (a.put o.dst v) w') :
    if Region.wanted o (yielded ops a.tmps) = true then Oper.wp Try.prog o a w K Q else E := by
  have hw : Region.wanted o (yielded ops a.tmps) = true := by simp [Region.wanted, hg]
  have hrun : (execOp a.eval o).run Try.prog w = .ok (.enter f #[arg]) w := by
    unfold execOp
    simp [hop, resolve, invoke, Deferred.ofValue, hc0, hx, hcf]
  rw [if_pos hw]
  unfold Oper.wp
  rw [hrun, Oper.upon_enter]
  refine hc.mono fun e w'' hh => ?_
  obtain ⟨v, rfl, hR⟩ := hh
  exact hK _ _ hR
/-- Bytes are appended to a slice without room: it lies in a new row. -/
theorem run_append_cut (ty : TypeId) (i : TypeInfo) (hi : Try.prog.info? 5 = some i) (hz : i.zero = some (.int .u8 0)) (hsize : i.size = 1) (hby : i.bytes = 1) (w : World) (g : Nat) (xs : List UInt8)
    (hcell : ∀ j u, (xs.map vb)[j]? = some u → w.cell? ⟨g, j, none⟩ = some u) (hx1 : xs ≠ []) (x : Value) (news : List UInt8) (hn : news ≠ []) (hx : (Builtin.lenOf x).run Try.prog w = .ok news.length w)
    (hf : ∀ w' : World, w'.heap = w.heap → (Builtin.firstCells 1 news.length x).run Try.prog w' = .ok (news.map vb).toArray w') (hlen : xs.length + news.length ≤ 1000000) :
    ∃ v' w', (Builtin.append_ #[48, 48] ty #[.slice (some ⟨g, 0, none⟩) xs.length xs.length, x]).run Try.prog w = .ok v' w' ∧ Row w' w.heap.size v' (xs ++ news) ∧ Keep [] w w' := by
  have ht := Try.underlying48
  have hm : xs.length + news.length ≤ maxLen := by unfold maxLen; omega
  have hnl : 0 < news.length := List.length_pos_iff.2 hn
  have hnot : ¬ (xs.length + news.length ≤ xs.length) := by omega
  have h63' : ¬ (9223372036854775807 < ((xs.length : Int) + (news.length : Int))) := by omega
  have h48' : ¬ (281474976710656 < Builtin.nextslicecap (xs.length + news.length) xs.length * i.bytes) := by
    have := growslice_fits (need := xs.length + news.length) (old := xs.length) (bytes := i.bytes) (by omega) (by rw [hby]; omega)
    omega
  have hold : ∀ w' : World, w'.heap = w.heap → (Builtin.firstCells 1 xs.length (.slice (some ⟨g, 0, none⟩) xs.length xs.length)).run Try.prog w' = .ok (xs.map vb).toArray w' := by
    intro w' hw'
    have := run_firstCells_some (P := Try.prog) w' 1 xs.length ⟨g, 0, none⟩ xs.length xs.length (xs.map vb) (by simp) (fun j u hj => by
      have hadd : (⟨g, 0, none⟩ : Addr).add j = ⟨g, j, none⟩ := by unfold Addr.add; split <;> simp_all
      rw [hadd, World.cell?_of_block (w := w) (by rw [hw'])]
      exact hcell j u hj)
    simpa using this
  have hge := grownCap_ge w (xs.length + news.length) xs.length 5
  have hcm : grownCap w (xs.length + news.length) xs.length 5 ≤ maxLen := grownCap_le_maxLen w _ xs.length _ hm
  have hf1 := hf w.drew rfl
  have hf2 := hold w.drew rfl
  refine ⟨.slice (some ⟨w.heap.size, 0, none⟩) (xs.length + news.length) (grownCap w (xs.length + news.length) xs.length 5),
    w.drew.alloc (.cells ((xs.map vb).toArray ++ (news.map vb).toArray ++ Builtin.zeroCells (Value.int .u8 0).cells (grownCap w (xs.length + news.length) xs.length 5 - (xs.length + news.length))) 5), ?_, ?_, (Keep.refl [] w).drew.alloc _⟩
  · simp [Builtin.append_, run_underlying ht, sizeOf, typeInfo, zeroValue, hi, hz, hsize, hx, hnot, hn, h63', h48', Question.forced, hf1, hf2, newRow, grownCap]
    try (congr 2; apply Array.ext'; simp [List.append_assoc])
  · refine .inr ⟨w.heap.size, _, _, (0, 0), by rw [List.length_append], Nat.le_refl _, heap_alloc_new w.drew _, .inl rfl, by simpa using hge, hcm, ?_, ?_⟩
    · have hz1 : (Value.int IntKind.u8 0).cells.size = 1 := rfl
      simp only [Array.size_append, List.size_toArray, size_zeroCells, hz1, List.length_map]
      omega
    · simp [List.take_append, List.take_of_length_le]
theorem step_append_cut {ops : Array Oper} {o : Oper} {a : Act} {w : World} {K : Act → World → Prop} {Q : Exit → Act → World → Prop} {E : Prop}
    (hg : o.guard = none) (s x : Operand) (hop : o.op = Op.call { callee := Callee.builtin Builtin.append, args := #[s, x], argTypes := #[48, 48] })
    (g : Nat) (xs : List UInt8) (hcell : ∀ j u, (xs.map vb)[j]? = some u → w.cell? ⟨g, j, none⟩ = some u) (hs : a.eval s = .slice (some ⟨g, 0, none⟩) xs.length xs.length) (hx1 : xs ≠ []) (base' : Nat) (x' : Value) (news : List UInt8) (hx : a.eval x = x') (hrow' : Row w base' x' news) (hn : news ≠ [])
    (hlen : xs.length + news.length ≤ 1000000)
    (hK : ∀ v' w', Row w' w.heap.size v' (xs ++ news) → Keep [] w w' → K (a.put o.dst v') w') :
    if Region.wanted o (yielded ops a.tmps) = true then Oper.wp Try.prog o a w K Q else E := by
  have hw : Region.wanted o (yielded ops a.tmps) = true := by simp [Region.wanted, hg]
  rw [if_pos hw]
  obtain ⟨i0, hi, hz0, hz1, hz2⟩ := info_parts info_u8
  have hfx : (Builtin.lenOf x').run Try.prog w = .ok news.length w := by
    obtain ⟨a', cap, rfl⟩ := row_form hrow'; rfl
  have hf : ∀ w' : World, w'.heap = w.heap → (Builtin.firstCells 1 news.length x').run Try.prog w' = .ok (news.map vb).toArray w' := by
    intro w' hw'
    have hr2 := hrow'
    rcases hrow' with ⟨rfl, rfl⟩ | ⟨g, cap, cur, fr, rfl, _⟩
    · simp [Builtin.firstCells]
    · exact firsts_slice w news ⟨g, 0, none⟩ cap (fun j u hj => by
        have hadd : (⟨g, 0, none⟩ : Addr).add j = ⟨g, j, none⟩ := by unfold Addr.add; split <;> simp_all
        rw [hadd]; exact row_cells hr2 rfl j u hj) w' hw'
  obtain ⟨v', w', hr, h2, h3⟩ := run_append_cut o.type i0 hi hz0 hz1 hz2 w g xs hcell hx1 x' news hn hfx hf hlen
  unfold Oper.wp execOp
  simp only [hop, resolve, invoke, builtin, Sem.run_bind, Sem.run_pure, Result.andThen_ok, List.map_toArray, List.map_cons, List.map_nil, hs, hx, hr]
  exact hK _ _ h2 h3
end Go.Proofs.Ytkpgenmlpkfokaa
