/- What is proved here: append, conversion and reading of slices of bytes that a call has made itself, also such as a conversion from a string has made. No condition. -/
import Derived.Test.YtbncejmohhejlaaBytes
import Derived.ArgAppend
import Derived.Lib.AppendStr
import Derived.Lib.ConvBytes
import Derived.Laws.IdiomStrings
import Derived.Laws.BytesString
set_option linter.unusedVariables false
set_option linter.unusedSimpArgs false
namespace Go.Proofs.Ytbncejmohhejlaa
open Go.RowKit

/-- A slice of bytes of the call's own, from block 'base' on: nil, or the head of a block of which no cell is frozen. -/
def Row (w : World) (base : Nat) (v : Value) (xs : List UInt8) : Prop :=
  (v = .slice none 0 0 ∧ xs = []) ∨
  ∃ g cap cur fr, v = .slice (some ⟨g, 0, none⟩) xs.length cap ∧ base ≤ g ∧ w.heap[g]? = some (.cells cur 5 fr) ∧ (fr.2 = 0 ∨ cur.size ≤ fr.1) ∧
    xs.length ≤ cap ∧ cap ≤ maxLen ∧ cur.size = cap ∧ cur.toList.take xs.length = xs.map vb

theorem run_storeCells_free (P : Program) (g o : Nat) (t : TypeId) (fz : Nat × Nat) : ∀ (vs : List Value) (i : Nat) (cur : Array Value) (w : World), w.heap[g]? = some (.cells cur t fz) → (fz.2 = 0 ∨ cur.size ≤ fz.1) → o + i + vs.length ≤ cur.size → (∀ v ∈ vs, v.oneCell' = true) →
    (storeCells ⟨g, o, none⟩ vs i).run P w = .ok () (w.setRow g (cur.toList.take (o + i) ++ vs ++ cur.toList.drop (o + i + vs.length)).toArray)
  | [], i, cur, w, hg, _, _, _ => by
    simp only [storeCells, List.append_nil, List.length_nil, Nat.add_zero, List.take_append_drop, Array.toArray_toList]
    rw [setRow_self w g cur t fz hg]
    rfl
  | v :: rest, i, cur, w, hg, hfz, hl, h1 => by
    have hi : o + i < cur.size := by simp at hl; omega
    have hadd : (⟨g, o, none⟩ : Addr).add i = ⟨g, o + i, none⟩ := by unfold Addr.add; split <;> simp_all
    have hcell : w.cell? ⟨g, o + i, none⟩ = some cur[o + i] := by simp [World.cell?, hg, hi]
    have hfro : w.frozen? ⟨g, o + i, none⟩ = false := by
      obtain ⟨lo, hi'⟩ := fz
      simp only [World.frozen?, hg, Bool.and_eq_false_iff, decide_eq_false_iff_not]
      simp only at hfz
      omega
    have hst : (store ((⟨g, o, none⟩ : Addr).add i) v).run P w = .ok () (w.setRow g (cur.setIfInBounds (o + i) v)) := by
      rw [hadd, run_store P w _ v _ (h1 v (by simp)), hcell]
      simp [hfro, setCell_eq_setRow w g (o + i) cur t fz v hg]
    have ih := run_storeCells_free P g o t fz rest (i + 1) (cur.setIfInBounds (o + i) v) (w.setRow g (cur.setIfInBounds (o + i) v)) (setRow_heap w g cur _ t _ hg) (by simpa using hfz) (by simp at hl ⊢; omega) (fun x hx => h1 x (by simp [hx]))
    simp only [storeCells, Sem.run_bind, hst, Result.andThen_ok, ih, setRow_setRow]
    congr 3
    have e := list_seg_step cur.toList (o + i) v rest (by simp at hl ⊢; omega)
    simpa [Array.toList_setIfInBounds, Nat.add_assoc] using e

theorem vb_one : ∀ (xs : List UInt8), ∀ u ∈ xs.map vb, u.oneCell' = true := by
  intro xs u hu
  obtain ⟨c, _, rfl⟩ := List.mem_map.1 hu
  rfl
theorem row_nil (w : World) (base : Nat) : Row w base (.slice none 0 0) [] := .inl ⟨rfl, rfl⟩
theorem row_lt {w : World} {base : Nat} {v : Value} {xs : List UInt8} (h : Row w base v xs) : ∀ k, v.ownBlock = some k → base ≤ k ∧ k < w.heap.size := by
  intro k hk
  rcases h with ⟨rfl, _⟩ | ⟨g, cap, cur, fr, rfl, hb, hg, _⟩
  · cases hk
  · obtain rfl : g = k := by injection hk
    exact ⟨hb, (Array.getElem?_eq_some_iff.1 hg).1⟩
theorem row_keep {S : List Nat} {w w' : World} {base : Nat} {v : Value} {xs : List UInt8} (h : Row w base v xs) (k : Keep S w w') (hn : ∀ g, v.ownBlock = some g → g ∉ S) : Row w' base v xs := by
  rcases h with h | ⟨g, cap, cur, fr, hv, hb, hg, r⟩
  · exact .inl h
  · exact .inr ⟨g, cap, cur, fr, hv, hb, by rw [k.block g (Array.getElem?_eq_some_iff.1 hg).1 (hn g (by rw [hv]; rfl))]; exact hg, r⟩
theorem row_below {w w' : World} {base B : Nat} {v : Value} {xs : List UInt8} (h : Row w base v xs) (k : Below B w w') (hB : w.heap.size ≤ B) : Row w' base v xs := by
  rcases h with h | ⟨g, cap, cur, fr, hv, hb, hg, r⟩
  · exact .inl h
  · exact .inr ⟨g, cap, cur, fr, hv, hb, by rw [k.block g (by have := (Array.getElem?_eq_some_iff.1 hg).1; omega)]; exact hg, r⟩
theorem row_mono {w : World} {base base' : Nat} {v : Value} {xs : List UInt8} (h : Row w base v xs) (hb : base' ≤ base) : Row w base' v xs := by
  rcases h with h | ⟨g, cap, cur, fr, hv, hb', r⟩
  · exact .inl h
  · exact .inr ⟨g, cap, cur, fr, hv, by omega, r⟩
theorem row_cells {w : World} {base : Nat} {v : Value} {xs : List UInt8} (h : Row w base v xs) {g : Nat} (hg : v.ownBlock = some g) : ∀ j u, (xs.map vb)[j]? = some u → w.cell? ⟨g, j, none⟩ = some u := by
  intro j u hu
  rcases h with ⟨rfl, _⟩ | ⟨g', cap, cur, fr, rfl, hb, hgg, _, _, _, _, ht⟩
  · cases hg
  · obtain rfl : g' = g := by injection hg
    rw [← ht, List.getElem?_take] at hu
    split at hu
    · rw [cell_of_row w g' j cur _ fr hgg]; simpa using hu
    · cases hu
theorem row_form {w : World} {base : Nat} {v : Value} {xs : List UInt8} (h : Row w base v xs) : ∃ a cap, v = .slice a xs.length cap := by
  rcases h with ⟨rfl, rfl⟩ | ⟨g', cap, cur, fr, rfl, _⟩
  · exact ⟨none, 0, rfl⟩
  · exact ⟨_, _, rfl⟩
theorem row_form1 {w : World} {base : Nat} {v : Value} {xs : List UInt8} (h : Row w base v xs) (hx : xs ≠ []) : ∃ g cap, v = .slice (some ⟨g, 0, none⟩) xs.length cap ∧ base ≤ g ∧ xs.length ≤ cap := by
  rcases h with ⟨_, rfl⟩ | ⟨g', cap, cur, fr, rfl, hb, _, _, hc, _⟩
  · exact absurd rfl hx
  · exact ⟨_, _, rfl, hb, hc⟩

section
variable {P : Program} (w : World)
set_option maxHeartbeats 2000000 in
theorem run_append_row (base : Nat) (t u ty : TypeId) (i : TypeInfo) (du : TypeDesc) (ht : P.underlying t = some (.slice 5)) (hu : P.underlying u = some du) (hdu : du = .string ∨ ∃ e, du = .slice e)
    (hi : P.info? 5 = some i) (hz : i.zero = some (.int .u8 0)) (hsize : i.size = 1) (hby : i.bytes = 1)
    (v : Value) (xs : List UInt8) (hrow : Row w base v xs) (x : Value) (news : List UInt8) (hx : (Builtin.lenOf x).run P w = .ok news.length w)
    (hf : ∀ w' : World, w'.heap = w.heap → (Builtin.firstCells 1 news.length x).run P w' = .ok (news.map vb).toArray w')
    (hlen : xs.length + news.length ≤ 140737488355328) (hbase : base ≤ w.heap.size) :
    ∃ v' w', (Builtin.append_ #[t, u] ty #[v, x]).run P w = .ok v' w' ∧ Row w' base v' (xs ++ news) ∧ Keep v.ownBlock.toList w w' := by
  have hm : xs.length + news.length ≤ maxLen := by unfold maxLen; omega
  have grown : ∀ (old : Nat), old < xs.length + news.length →
      Row (w.drew.alloc (.cells ((xs.map vb).toArray ++ (news.map vb).toArray ++ Builtin.zeroCells (Value.int .u8 0).cells (grownCap w (xs.length + news.length) old 5 - (xs.length + news.length))) 5)) base
        (.slice (some ⟨w.heap.size, 0, none⟩) (xs.length + news.length) (grownCap w (xs.length + news.length) old 5)) (xs ++ news) ∧
      ∀ S, Keep S w (w.drew.alloc (.cells ((xs.map vb).toArray ++ (news.map vb).toArray ++ Builtin.zeroCells (Value.int .u8 0).cells (grownCap w (xs.length + news.length) old 5 - (xs.length + news.length))) 5)) := by
    intro old ho
    have hge := grownCap_ge w (xs.length + news.length) old 5
    have hcm : grownCap w (xs.length + news.length) old 5 ≤ maxLen := grownCap_le_maxLen w _ old _ hm
    refine ⟨.inr ⟨w.heap.size, _, _, (0, 0), by rw [List.length_append], hbase, heap_alloc_new w.drew _, .inl rfl, by simpa using hge, hcm, ?_, ?_⟩, fun S => (Keep.refl S w).drew.alloc _⟩
    · have hz1 : (Value.int IntKind.u8 0).cells.size = 1 := rfl
      simp only [Array.size_append, List.size_toArray, size_zeroCells, hz1, List.length_map]
      omega
    · simp [List.take_append, List.take_of_length_le]
  have hgrow : ∀ (a : Option Addr) (cap : Nat), v = .slice a xs.length cap → ¬ (xs.length + news.length ≤ cap) → cap ≤ maxLen →
      (∀ w' : World, w'.heap = w.heap → (Builtin.firstCells 1 xs.length v).run P w' = .ok (xs.map vb).toArray w') →
      (Builtin.append_ #[t, u] ty #[v, x]).run P w = .ok (.slice (some ⟨w.heap.size, 0, none⟩) (xs.length + news.length) (grownCap w (xs.length + news.length) cap 5))
        (w.drew.alloc (.cells ((xs.map vb).toArray ++ (news.map vb).toArray ++ Builtin.zeroCells (Value.int .u8 0).cells (grownCap w (xs.length + news.length) cap 5 - (xs.length + news.length))) 5)) := by
    rintro a cap rfl hn hcap hold
    have h63' : ¬ (9223372036854775807 < ((xs.length : Int) + (news.length : Int))) := by omega
    have h48' : ¬ (281474976710656 < Builtin.nextslicecap (xs.length + news.length) cap * i.bytes) := by
      have := growslice_fits (need := xs.length + news.length) (old := cap) (bytes := i.bytes) (by omega) (by rw [hby]; omega)
      omega
    have hf1 := hf w.drew rfl
    have hf2 := hold w.drew rfl
    rcases hdu with rfl | ⟨e', rfl⟩ <;> simp [Builtin.append_, run_underlying ht, run_underlying hu, sizeOf, typeInfo, zeroValue, hi, hz, hsize, hx, hn, h63', h48', Question.forced, hf1, hf2, newRow, grownCap] <;> (congr 2; apply Array.ext'; simp [List.append_assoc])
  rcases hrow with ⟨rfl, rfl⟩ | ⟨g, cap, cur, fr, rfl, hb, hg, hfr, hc, hcm, hcs, htk⟩
  · by_cases hn : news.length = 0
    · obtain rfl : news = [] := List.eq_nil_of_length_eq_zero hn
      refine ⟨.slice none 0 0, w, ?_, row_nil w base, Keep.refl _ w⟩
      have hf1 := hf w rfl
      simp at hx hf1
      rcases hdu with rfl | ⟨e', rfl⟩ <;> simp [Builtin.append_, run_underlying ht, run_underlying hu, sizeOf, typeInfo, hi, hsize, hx, hf1]
    · have hr := hgrow none 0 rfl (by simpa using hn) (by unfold maxLen; omega) (fun w' _ => by simp [Builtin.firstCells])
      have := grown 0 (by simp; omega)
      exact ⟨_, _, hr, this.1, this.2 _⟩
  · by_cases hroom : xs.length + news.length ≤ cap
    · have hst := run_storeCells_free P g xs.length 5 fr (news.map vb) 0 cur w hg hfr (by simp; omega) (vb_one news)
      simp only [Nat.add_zero] at hst
      have hf1 := hf w rfl
      have hr : (Builtin.append_ #[t, u] ty #[.slice (some ⟨g, 0, none⟩) xs.length cap, x]).run P w =
          .ok (.slice (some ⟨g, 0, none⟩) (xs.length + news.length) cap) (w.setRow g (cur.toList.take xs.length ++ news.map vb ++ cur.toList.drop (xs.length + (news.map vb).length)).toArray) := by
        rcases hdu with rfl | ⟨e', rfl⟩ <;> simp [Builtin.append_, run_underlying ht, run_underlying hu, sizeOf, typeInfo, hi, hsize, hx, hroom, hf1, Addr.add_lit, hst]
      refine ⟨_, _, hr, .inr ⟨g, cap, _, fr, by rw [List.length_append], hb, setRow_heap w g cur _ _ _ hg, ?_, by simpa using hroom, hcm, ?_, ?_⟩, ?_⟩
      · rcases hfr with h | h
        · exact .inl h
        · right; simp; omega
      · simp; omega
      · simp [htk, List.take_append, List.take_of_length_le]
      · exact ⟨rfl, rfl, rfl, by simp, fun k _ hk => setRow_other w g k _ (fun e => hk (by simp [Value.ownBlock, e]))⟩
    · have hold : ∀ w' : World, w'.heap = w.heap → (Builtin.firstCells 1 xs.length (.slice (some ⟨g, 0, none⟩) xs.length cap)).run P w' = .ok (xs.map vb).toArray w' := by
        intro w' hw'
        have := run_firstCells_some (P := P) w' 1 xs.length ⟨g, 0, none⟩ xs.length cap (xs.map vb) (by simp) (fun j u hj => by
          have hadd : (⟨g, 0, none⟩ : Addr).add j = ⟨g, j, none⟩ := by unfold Addr.add; split <;> simp_all
          rw [hadd, World.cell?_of_block (w := w) (by rw [hw'])]
          exact row_cells (w := w) (base := base) (v := .slice (some ⟨g, 0, none⟩) xs.length cap) (xs := xs) (.inr ⟨g, cap, cur, fr, rfl, hb, hg, hfr, hc, hcm, hcs, htk⟩) rfl j u hj)
        simpa using this
      have hr := hgrow (some ⟨g, 0, none⟩) cap rfl hroom hcm hold
      have := grown cap (by omega)
      exact ⟨_, _, hr, this.1, this.2 _⟩
theorem wpList_append_row {ops : Array Oper} {rest : List Oper} {o : Oper} {a : Act} {Q : Exit → Act → World → Prop} (hgd : o.guard = none) (s x : Operand) (t u : TypeId)
    (ho : o.op = .call { callee := .builtin .append, args := #[s, x], argTypes := #[t, u] })
    (base : Nat) (i : TypeInfo) (du : TypeDesc) (ht : P.underlying t = some (.slice 5)) (hu : P.underlying u = some du) (hdu : du = .string ∨ ∃ e, du = .slice e)
    (hi : P.info? 5 = some i) (hz : i.zero = some (.int .u8 0)) (hsize : i.size = 1) (hby : i.bytes = 1)
    (v : Value) (xs : List UInt8) (hs : a.eval s = v) (hrow : Row w base v xs) (xv : Value) (hxv : a.eval x = xv) (news : List UInt8) (hx : (Builtin.lenOf xv).run P w = .ok news.length w)
    (hf : ∀ w' : World, w'.heap = w.heap → (Builtin.firstCells 1 news.length xv).run P w' = .ok (news.map vb).toArray w')
    (hlen : xs.length + news.length ≤ 140737488355328) (hbase : base ≤ w.heap.size)
    (h : ∀ v' w', Row w' base v' (xs ++ news) → Keep v.ownBlock.toList w w' → wpList P ops Q rest (a.put o.dst v') w') : wpList P ops Q (o :: rest) a w := by
  refine wpList_plain hgd fun K hK => ?_
  obtain ⟨v', w', hr, h2, h3⟩ := run_append_row (P := P) w base t u o.type i du ht hu hdu hi hz hsize hby v xs hrow xv news hx hf hlen hbase
  unfold Oper.wp execOp
  simp only [ho, resolve, invoke, builtin, Sem.run_bind, Sem.run_pure, Result.andThen_ok, List.map_toArray, List.map_cons, List.map_nil, hs, hxv, hr]
  exact hK _ _ (h v' w' h2 h3)
theorem firsts_slice (news : List UInt8) (ad : Addr) (c : Nat) (hnews : ∀ j u, (news.map vb)[j]? = some u → w.cell? (ad.add j) = some u) :
    ∀ w' : World, w'.heap = w.heap → (Builtin.firstCells 1 news.length (.slice (some ad) news.length c)).run P w' = .ok (news.map vb).toArray w' := by
  intro w' hw'
  have := run_firstCells_some (P := P) w' 1 news.length ad news.length c (news.map vb) (by simp) (fun j u hj => by
    rw [World.cell?_of_block (w := w) (by rw [hw'])]; exact hnews j u hj)
  simpa using this
theorem firsts_string (s : ByteArray) : ∀ w' : World, w'.heap = w.heap → (Builtin.firstCells 1 s.data.toList.length (.string s)).run P w' = .ok (s.data.toList.map vb).toArray w' := by
  intro w' _
  have := Lib.run_firstCells_string (P := P) w' 1 s
  rw [show s.data.toList.length = s.size by simp]
  rw [this]; rfl
end
/-- One byte is appended: the walk lays it in a new block of one cell. -/
theorem append_byte {ops : Array Oper} {rest : List Oper} {o : Oper} {a : Act} {Q : Exit → Act → World → Prop} (w : World) (hgd : o.guard = none) (s x : Operand)
    (ho : o.op = .call { callee := .builtin .append, args := #[s, x], argTypes := #[51, 51] })
    (base : Nat) (v : Value) (xs : List UInt8) (hs : a.eval s = v) (hrow : Row w base v xs) (g : Nat) (c : UInt8) (hx : a.eval x = .slice (some ⟨g, 0, none⟩) 1 1) (hc : w.cell? ⟨g, 0, none⟩ = some (vb c))
    (hlen : xs.length + 1 ≤ 140737488355328) (hbase : base ≤ w.heap.size)
    (h : ∀ v' w', Row w' base v' (xs ++ [c]) → Keep v.ownBlock.toList w w' → wpList Try.prog ops Q rest (a.put o.dst v') w') : wpList Try.prog ops Q (o :: rest) a w := by
  obtain ⟨i0, hi, hz0, hz1, hz2⟩ := info_parts info_u8
  refine wpList_append_row w hgd s x _ _ ho base i0 _ Try.underlying51 Try.underlying51 (.inr ⟨_, rfl⟩) hi hz0 hz1 hz2 v xs hs hrow _ hx [c] rfl ?_ hlen hbase h
  exact firsts_slice w [c] ⟨g, 0, none⟩ 1 (fun j u hj => by
    cases j with
    | zero =>
      simp at hj; subst hj
      exact hc
    | succ j => simp at hj)
theorem append_slice {ops : Array Oper} {rest : List Oper} {o : Oper} {a : Act} {Q : Exit → Act → World → Prop} (w : World) (hgd : o.guard = none) (s x : Operand)
    (ho : o.op = .call { callee := .builtin .append, args := #[s, x], argTypes := #[51, 51] })
    (base : Nat) (v : Value) (xs : List UInt8) (hs : a.eval s = v) (hrow : Row w base v xs) (base' : Nat) (x' : Value) (news : List UInt8) (hx : a.eval x = x') (hrow' : Row w base' x' news)
    (hlen : xs.length + news.length ≤ 140737488355328) (hbase : base ≤ w.heap.size)
    (h : ∀ v' w', Row w' base v' (xs ++ news) → Keep v.ownBlock.toList w w' → wpList Try.prog ops Q rest (a.put o.dst v') w') : wpList Try.prog ops Q (o :: rest) a w := by
  obtain ⟨i0, hi, hz0, hz1, hz2⟩ := info_parts info_u8
  have hfx : (Builtin.lenOf x').run Try.prog w = .ok news.length w := by
    obtain ⟨a', cap, rfl⟩ := row_form hrow'; rfl
  refine wpList_append_row w hgd s x _ _ ho base i0 _ Try.underlying51 Try.underlying51 (.inr ⟨_, rfl⟩) hi hz0 hz1 hz2 v xs hs hrow _ hx news hfx ?_ hlen hbase h
  intro w' hw'
  have hr2 := hrow'
  rcases hrow' with ⟨rfl, rfl⟩ | ⟨g, cap, cur, fr, rfl, _⟩
  · simp [Builtin.firstCells]
  · exact firsts_slice w news ⟨g, 0, none⟩ cap (fun j u hj => by
      have hadd : (⟨g, 0, none⟩ : Addr).add j = ⟨g, j, none⟩ := by unfold Addr.add; split <;> simp_all
      rw [hadd]; exact row_cells hr2 rfl j u hj) w' hw'
theorem append_string {ops : Array Oper} {rest : List Oper} {o : Oper} {a : Act} {Q : Exit → Act → World → Prop} (w : World) (hgd : o.guard = none) (s x : Operand)
    (ho : o.op = .call { callee := .builtin .append, args := #[s, x], argTypes := #[51, 9] })
    (base : Nat) (v : Value) (xs : List UInt8) (hs : a.eval s = v) (hrow : Row w base v xs) (b : ByteArray) (hx : a.eval x = .string b)
    (hlen : xs.length + b.size ≤ 140737488355328) (hbase : base ≤ w.heap.size)
    (h : ∀ v' w', Row w' base v' (xs ++ b.data.toList) → Keep v.ownBlock.toList w w' → wpList Try.prog ops Q rest (a.put o.dst v') w') : wpList Try.prog ops Q (o :: rest) a w := by
  obtain ⟨i0, hi, hz0, hz1, hz2⟩ := info_parts info_u8
  refine wpList_append_row w hgd s x _ _ ho base i0 _ Try.underlying51 Try.underlying9 (.inl rfl) hi hz0 hz1 hz2 v xs hs hrow _ hx b.data.toList ?_ (firsts_string w b) (by simpa using hlen) hbase h
  simp [Builtin.lenOf]
/-- A string is turned into bytes: a row of the call's own. -/
theorem run_bytes (s : ByteArray) (w : World) :
    (convert 9 51 (.string s)).run Try.prog w = .ok (.slice (some ⟨w.heap.size, 0, none⟩) s.size (grownCap w s.size 0 5)) (Lib.bytesWorld w 5 s) :=
  Lib.run_convert_string_bytes w 9 51 5 s Try.underlying9 Try.underlying51 Try.underlying5
theorem bytes_row (w : World) (s : ByteArray) (hs : s.size ≤ 140737488355328) : Row (Lib.bytesWorld w 5 s) w.heap.size (.slice (some ⟨w.heap.size, 0, none⟩) s.size (grownCap w s.size 0 5)) s.data.toList := by
  have hge := grownCap_ge w s.size 0 5
  refine .inr ⟨_, _, _, _, by simp, Nat.le_refl _, Lib.bytesWorld_at_new w 5 s, .inr (Nat.le_refl _), by simpa using hge, grownCap_le_maxLen w s.size 0 5 (by unfold maxLen; omega), ?_, ?_⟩
  · simp [Lib.bytesCells]; omega
  · simp [Lib.bytesCells]; intro a _; rfl
theorem bytes_keep (w : World) (s : ByteArray) : Keep [] w (Lib.bytesWorld w 5 s) :=
  ⟨rfl, rfl, rfl, by rw [Lib.bytesWorld_size]; omega, fun k hk _ => Lib.bytesWorld_at_old w _ s k hk⟩
theorem bytes_size (w : World) (s : ByteArray) : (Lib.bytesWorld w 5 s).heap.size = w.heap.size + 1 := Lib.bytesWorld_size w _ s
theorem row_byte {w : World} {base g n cap : Nat} {xs : List UInt8} (h : Row w base (.slice (some ⟨g, 0, none⟩) n cap) xs) : ∀ i (hi : i < xs.length), w.cell? ⟨g, i, none⟩ = some (vb xs[i]) :=
  fun i hi => row_cells h rfl i _ (by simp [hi])
/-- Bytes are turned into a string. -/
theorem run_string {w : World} {base : Nat} {v : Value} {xs : List UInt8} (h : Row w base v xs) : (convert 51 9 v).run Try.prog w = .ok (.string ⟨xs.toArray⟩) w := by
  have hr := h
  rcases h with ⟨rfl, rfl⟩ | ⟨g, cap, cur, fr, rfl, _⟩
  · rw [run_convert_bytes_string w 51 9 5 none 0 0 Try.underlying51 Try.underlying5 Try.underlying9]; rfl
  · exact run_convert_bytes_back w 51 9 5 ⟨g, 0, none⟩ cap xs Try.underlying51 Try.underlying5 Try.underlying9 (fun j hj => by
      have hadd : (⟨g, 0, none⟩ : Addr).add j = ⟨g, j, none⟩ := by unfold Addr.add; split <;> simp_all
      rw [hadd]; exact row_cells hr rfl j _ (by simp [hj, vb]))
theorem row_free {w : World} {base : Nat} {v : Value} {xs : List UInt8} (h : Row w base v xs) {g : Nat} (hg : v.ownBlock = some g) (i : Nat) (hi : i < xs.length) : w.frozen? ⟨g, i, none⟩ = false := by
  rcases h with ⟨rfl, _⟩ | ⟨g', cap, cur, fr, rfl, hb, hgg, hfr, hc, _, hcs, ht⟩
  · cases hg
  · obtain rfl : g' = g := by injection hg
    obtain ⟨lo, hi'⟩ := fr
    simp only [World.frozen?, hgg, Bool.and_eq_false_iff, decide_eq_false_iff_not]
    simp only at hfr
    omega
theorem row_set {w : World} {base g n cap : Nat} {xs : List UInt8} (h : Row w base (.slice (some ⟨g, 0, none⟩) n cap) xs) (i : Nat) (c : UInt8) :
    Row (w.setCell ⟨g, i, none⟩ (vb c)) base (.slice (some ⟨g, 0, none⟩) n cap) (xs.set i c) := by
  rcases h with ⟨h, _⟩ | ⟨g', cap', cur, fr, hv, hb, hgg, hfr, hc, hm, hcs, ht⟩
  · cases h
  · injection hv with e1 e2 e3; injection e1 with e1; injection e1 with e1
    subst e1 e2 e3
    refine .inr ⟨g, cap, cur.setIfInBounds i (vb c), fr, by simp, hb, ?_, by simpa using hfr, by simpa using hc, hm, by simpa using hcs, ?_⟩
    · rw [setCell_eq_setRow w g i cur _ fr _ hgg]; exact setRow_heap w g cur _ _ _ hgg
    · rw [Array.toList_setIfInBounds, List.length_set, List.take_set, ht, List.map_set]
end Go.Proofs.Ytbncejmohhejlaa
