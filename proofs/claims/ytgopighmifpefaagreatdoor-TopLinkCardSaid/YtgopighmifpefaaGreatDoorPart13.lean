/- What is proved here: a part of the proof of TopLink (texts A3 A4 Ak1 Ak2 Sh Ct11 Fi1). No condition. -/
import Derived.Deep.DeepCutAuto
import Derived.Shelf.Strings.Builder1
import Derived.Shelf.Strings.Repeat
import Derived.Laws.AppendOwn
import Derived.Test.YtgopighmifpefaaGreatDoorPart01
import Derived.Test.YtgopighmifpefaaGreatDoorPart10
import Derived.Test.YtgopighmifpefaaGreatDoorPart12
set_option linter.unusedVariables false
set_option linter.unusedSimpArgs false
namespace Go.Proofs.YtgopighmifpefaaGreatDoor
section
open Go.RowKit
theorem row_ne2 {w : World} {base a : Nat} {v : Value} {xs : List UInt8} {cs : List Value} {t : TypeId} (hR : Row w base v xs) (hB : Blk w a cs t) (ht : ¬ t = 5) : ∀ g, v.ownBlock = some g → g ≠ a := by
  intro g hg
  rcases hR with ⟨rfl, _⟩ | ⟨g', cap, cur, fr, rfl, hb, hh, _⟩
  · cases hg
  · have e : g' = g := by injection hg
    subst e
    intro e2
    subst e2
    rw [hB] at hh
    injection hh with hh
    injection hh with _ h2
    exact absurd h2 ht
end
section
open Go.RowKit
end
section
open Go.RowKit
def AsmV (w : World) (a : Nat) (op : Bool) (v : Value) (xs : List UInt8) : Prop := Blk w a [.bool true, .bool op, v] 112 ∧ Row w 0 v xs
/-- What a method with the assembler may have changed. -/
structure AsmTo (w w' : World) (a : Nat) (v v' : Value) : Prop where
  keep : Keep (a :: v.ownBlock.toList) w w'
  mv : Mv w v v'
attribute [local go_sem] run_bytes bytes_size
section
variable {P : Program} (w : World)
theorem run_append_rowm (base : Nat) (t u ty : TypeId) (i : TypeInfo) (du : TypeDesc) (ht : P.underlying t = some (.slice 5)) (hu : P.underlying u = some du) (hdu : du = .string ∨ ∃ e, du = .slice e)
    (hi : P.info? 5 = some i) (hz : i.zero = some (.int .u8 0)) (hsize : i.size = 1) (hby : i.bytes = 1)
    (v : Value) (xs : List UInt8) (hrow : Row w base v xs) (x : Value) (news : List UInt8) (hx : (Builtin.lenOf x).run P w = .ok news.length w)
    (hf : ∀ w' : World, w'.heap = w.heap → (Builtin.firstCells 1 news.length x).run P w' = .ok (news.map vb).toArray w')
    (hlen : xs.length + news.length ≤ 140737488355328) (hbase : base ≤ w.heap.size) :
    ∃ v' w', (Builtin.append_ #[t, u] ty #[v, x]).run P w = .ok v' w' ∧ Row w' base v' (xs ++ news) ∧ Keep v.ownBlock.toList w w' ∧ Mv w v v' := by
  have hm : xs.length + news.length ≤ maxLen := by unfold maxLen; omega
  have grown : ∀ (old : Nat), old < xs.length + news.length →
      Row (w.drew.alloc (.cells ((xs.map vb).toArray ++ (news.map vb).toArray ++ Builtin.zeroCells (Value.int .u8 0).cells (grownCap w (xs.length + news.length) old 5 - (xs.length + news.length))) 5)) base
        (.slice (some ⟨w.heap.size, 0, none⟩) (xs.length + news.length) (grownCap w (xs.length + news.length) old 5)) (xs ++ news) ∧
      ∀ S, Keep S w (w.drew.alloc (.cells ((xs.map vb).toArray ++ (news.map vb).toArray ++ Builtin.zeroCells (Value.int .u8 0).cells (grownCap w (xs.length + news.length) old 5 - (xs.length + news.length))) 5)) := by
    intro old ho
    have hge := grownCap_ge w (xs.length + news.length) old 5
    have hcm : grownCap w (xs.length + news.length) old 5 ≤ maxLen := grownCap_le_maxLen w _ old _ hm
    refine ⟨.inr ⟨w.heap.size, _, _, (0, 0), by rw [List.length_append], hbase, heap_alloc_new w.drew _, .inl rfl, by simpa using hge, hcm, ?_, ?_⟩, fun S => (Keep.refl S w).drew.alloc _⟩
    · have hz1 : (Value.int IntKind.u8 0).cells.size = 1 := rfl
      simp only [Array.size_append, List.size_toArray, size_zeroCells, hz1, List.length_map]
      omega
    · simp [List.take_append, List.take_of_length_le]
  have hgrow : ∀ (a : Option Addr) (cap : Nat), v = .slice a xs.length cap → ¬ (xs.length + news.length ≤ cap) → cap ≤ maxLen →
      (∀ w' : World, w'.heap = w.heap → (Builtin.firstCells 1 xs.length v).run P w' = .ok (xs.map vb).toArray w') →
      (Builtin.append_ #[t, u] ty #[v, x]).run P w = .ok (.slice (some ⟨w.heap.size, 0, none⟩) (xs.length + news.length) (grownCap w (xs.length + news.length) cap 5))
        (w.drew.alloc (.cells ((xs.map vb).toArray ++ (news.map vb).toArray ++ Builtin.zeroCells (Value.int .u8 0).cells (grownCap w (xs.length + news.length) cap 5 - (xs.length + news.length))) 5)) := by
    rintro a cap rfl hn hcap hold
    have h63' : ¬ (9223372036854775807 < ((xs.length : Int) + (news.length : Int))) := by omega
    have h48' : ¬ (281474976710656 < Builtin.nextslicecap (xs.length + news.length) cap * i.bytes) := by
      have := growslice_fits (need := xs.length + news.length) (old := cap) (bytes := i.bytes) (by omega) (by rw [hby]; omega)
      omega
    have hf1 := hf w.drew rfl
    have hf2 := hold w.drew rfl
    rcases hdu with rfl | ⟨e', rfl⟩ <;> simp [Builtin.append_, run_underlying ht, run_underlying hu, sizeOf, typeInfo, zeroValue, hi, hz, hsize, hx, hn, h63', h48', Question.forced, hf1, hf2, newRow, grownCap] <;> (congr 2; apply Array.ext'; simp [List.append_assoc])
  rcases hrow with ⟨rfl, rfl⟩ | ⟨g, cap, cur, fr, rfl, hb, hg, hfr, hc, hcm, hcs, htk⟩
  · by_cases hn : news.length = 0
    · obtain rfl : news = [] := List.eq_nil_of_length_eq_zero hn
      refine ⟨.slice none 0 0, w, ?_, row_nil w base, Keep.refl _ w, Mv.rfl⟩
      have hf1 := hf w rfl
      simp at hx hf1
      rcases hdu with rfl | ⟨e', rfl⟩ <;> simp [Builtin.append_, run_underlying ht, run_underlying hu, sizeOf, typeInfo, hi, hsize, hx, hf1]
    · have hr := hgrow none 0 rfl (by simpa using hn) (by unfold maxLen; omega) (fun w' _ => by simp [Builtin.firstCells])
      have := grown 0 (by simp; omega)
      exact ⟨_, _, hr, this.1, this.2 _, fun k hk => .inr (by injection hk with hk; exact Nat.le_of_eq hk)⟩
  · by_cases hroom : xs.length + news.length ≤ cap
    · have hst := run_storeCells_free P g xs.length 5 fr (news.map vb) 0 cur w hg hfr (by simp; omega) (vb_one news)
      simp only [Nat.add_zero] at hst
      have hf1 := hf w rfl
      have hr : (Builtin.append_ #[t, u] ty #[.slice (some ⟨g, 0, none⟩) xs.length cap, x]).run P w =
          .ok (.slice (some ⟨g, 0, none⟩) (xs.length + news.length) cap) (w.setRow g (cur.toList.take xs.length ++ news.map vb ++ cur.toList.drop (xs.length + (news.map vb).length)).toArray) := by
        rcases hdu with rfl | ⟨e', rfl⟩ <;> simp [Builtin.append_, run_underlying ht, run_underlying hu, sizeOf, typeInfo, hi, hsize, hx, hroom, hf1, Addr.add_lit, hst]
      refine ⟨_, _, hr, .inr ⟨g, cap, _, fr, by rw [List.length_append], hb, setRow_heap w g cur _ _ _ hg, ?_, by simpa using hroom, hcm, ?_, ?_⟩, ?_⟩
      · rcases hfr with h | h
        · exact .inl h
        · right; simp; omega
      · simp; omega
      · simp [htk, List.take_append, List.take_of_length_le]
      · exact ⟨⟨rfl, rfl, rfl, by simp, fun k _ hk => setRow_other w g k _ (fun e => hk (by simp [Value.ownBlock, e]))⟩, fun k hk => .inl hk⟩
    · have hold : ∀ w' : World, w'.heap = w.heap → (Builtin.firstCells 1 xs.length (.slice (some ⟨g, 0, none⟩) xs.length cap)).run P w' = .ok (xs.map vb).toArray w' := by
        intro w' hw'
        have := run_firstCells_some (P := P) w' 1 xs.length ⟨g, 0, none⟩ xs.length cap (xs.map vb) (by simp) (fun j u hj => by
          have hadd : (⟨g, 0, none⟩ : Addr).add j = ⟨g, j, none⟩ := by unfold Addr.add; split <;> simp_all
          rw [hadd, World.cell?_of_block (w := w) (by rw [hw'])]
          exact row_cells (w := w) (base := base) (v := .slice (some ⟨g, 0, none⟩) xs.length cap) (xs := xs) (.inr ⟨g, cap, cur, fr, rfl, hb, hg, hfr, hc, hcm, hcs, htk⟩) rfl j u hj)
        simpa using this
      have hr := hgrow (some ⟨g, 0, none⟩) cap rfl hroom hcm hold
      have := grown cap (by omega)
      exact ⟨_, _, hr, this.1, this.2 _, fun k hk => .inr (by injection hk with hk; exact Nat.le_of_eq hk)⟩
theorem wpList_append_rowm {ops : Array Oper} {rest : List Oper} {o : Oper} {a : Act} {Q : Exit → Act → World → Prop} (hgd : o.guard = none) (s x : Operand) (t u : TypeId)
    (ho : o.op = .call { callee := .builtin .append, args := #[s, x], argTypes := #[t, u] })
    (base : Nat) (i : TypeInfo) (du : TypeDesc) (ht : P.underlying t = some (.slice 5)) (hu : P.underlying u = some du) (hdu : du = .string ∨ ∃ e, du = .slice e)
    (hi : P.info? 5 = some i) (hz : i.zero = some (.int .u8 0)) (hsize : i.size = 1) (hby : i.bytes = 1)
    (v : Value) (xs : List UInt8) (hs : a.eval s = v) (hrow : Row w base v xs) (xv : Value) (hxv : a.eval x = xv) (news : List UInt8) (hx : (Builtin.lenOf xv).run P w = .ok news.length w)
    (hf : ∀ w' : World, w'.heap = w.heap → (Builtin.firstCells 1 news.length xv).run P w' = .ok (news.map vb).toArray w')
    (hlen : xs.length + news.length ≤ 140737488355328) (hbase : base ≤ w.heap.size)
    (h : ∀ v' w', Row w' base v' (xs ++ news) → Keep v.ownBlock.toList w w' → Mv w v v' → wpList P ops Q rest (a.put o.dst v') w') : wpList P ops Q (o :: rest) a w := by
  refine wpList_plain hgd fun K hK => ?_
  obtain ⟨v', w', hr, h2, h3, h4⟩ := run_append_rowm (P := P) w base t u o.type i du ht hu hdu hi hz hsize hby v xs hrow xv news hx hf hlen hbase
  unfold Oper.wp execOp
  simp only [ho, resolve, invoke, builtin, Sem.run_bind, Sem.run_pure, Result.andThen_ok, List.map_toArray, List.map_cons, List.map_nil, hs, hxv, hr]
  exact hK _ _ (h v' w' h2 h3 h4)
end
theorem append_stringm {ops : Array Oper} {rest : List Oper} {o : Oper} {a : Act} {Q : Exit → Act → World → Prop} (w : World) (hgd : o.guard = none) (s x : Operand)
    (ho : o.op = .call { callee := .builtin .append, args := #[s, x], argTypes := #[97, 9] })
    (base : Nat) (v : Value) (xs : List UInt8) (hs : a.eval s = v) (hrow : Row w base v xs) (b : ByteArray) (hx : a.eval x = .string b)
    (hlen : xs.length + b.size ≤ 140737488355328) (hbase : base ≤ w.heap.size)
    (h : ∀ v' w', Row w' base v' (xs ++ b.data.toList) → Keep v.ownBlock.toList w w' → Mv w v v' → wpList Tryz.prog ops Q rest (a.put o.dst v') w') : wpList Tryz.prog ops Q (o :: rest) a w := by
  obtain ⟨i0, hi, hz0, hz1, hz2⟩ := info_parts info_u8
  refine wpList_append_rowm w hgd s x _ _ ho base i0 _ Tryz.underlying97 Tryz.underlying9 (.inl rfl) hi hz0 hz1 hz2 v xs hs hrow _ hx b.data.toList ?_ (firsts_string w b) (by simpa using hlen) hbase h
  simp [Builtin.lenOf]
set_option maxHeartbeats 4000000 in
set_option maxRecDepth 100000 in
theorem first_k (part : ByteArray) (a : Nat) (op : Bool) (v : Value) (xs : List UInt8) (w : World) (hp : part.size ≤ 1000) (hA : AsmV w a op v xs) :
    Calls Tryz.prog 111 #[.pointer (some ⟨a, 0, none⟩), .string part] w fun e w' => e = .returned (pieceV false .empty op) ∧ ∃ v', AsmTo w w' a v v' ∧ AsmV w' a true v' part.data.toList := by
  obtain ⟨hB, hR⟩ := hA
  have hal := hB.lt
  have HB0 := Lib.hid (hB.alloc (Obj.cells #[.bool false, .string ⟨#[]⟩, .int .i64 0, .bool false] 156))
  have HZ0 := Lib.hid (Blk.new w (pieceC false .empty false) 156)
  have HB1 := Lib.hid (HB0.out.keep (bytes_keep (w.alloc (Obj.cells #[.bool false, .string ⟨#[]⟩, .int .i64 0, .bool false] 156)) part) (by simp))
  have HZ1 := Lib.hid (HZ0.out.keep (bytes_keep (w.alloc (Obj.cells #[.bool false, .string ⟨#[]⟩, .int .i64 0, .bool false] 156)) part) (by simp))
  have hr1 := bytes_row (w.alloc (Obj.cells #[.bool false, .string ⟨#[]⟩, .int .i64 0, .bool false] 156)) part (by omega)
  rw [show (w.alloc (Obj.cells #[.bool false, .string ⟨#[]⟩, .int .i64 0, .bool false] 156)).heap.size = w.heap.size + 1 by simp] at hr1
  have HR1 := Lib.hid hr1; clear hr1
  have c0 := HB0.out.cell 0
  have c1 := HB0.out.cell 1
  have c2 := HB0.out.cell 2
  simp only [List.getElem?_cons_zero, List.getElem?_cons_succ] at c0 c1 c2
  have d0 := HB1.out.cell 0
  have d1 := HB1.out.cell 1
  have d2 := HB1.out.cell 2
  simp only [List.getElem?_cons_zero, List.getElem?_cons_succ] at d0 d1 d2
  have f0 := HB1.out.free 0
  have f1 := HB1.out.free 1
  have f2 := HB1.out.free 2
  have z0 := HZ1.out.cell 0
  have z1 := HZ1.out.cell 1
  have z2 := HZ1.out.cell 2
  have z3 := HZ1.out.cell 3
  simp only [pieceC, List.getElem?_cons_zero, List.getElem?_cons_succ] at z0 z1 z2 z3
  have y0 := HZ1.out.free 0
  have y1 := HZ1.out.free 1
  have y2 := HZ1.out.free 2
  have y3 := HZ1.out.free 3
  have hne1 : a ≠ w.heap.size := by omega
  have hne2 : w.heap.size ≠ a := by omega
  clear hB hR
  have HL1 := Lib.hid (((Keep.refl (a :: v.ownBlock.toList) w).alloc (Obj.cells #[.bool false, .string ⟨#[]⟩, .int .i64 0, .bool false] 156)).trans ((bytes_keep (w.alloc (Obj.cells #[.bool false, .string ⟨#[]⟩, .int .i64 0, .bool false] 156)) part).mono (by simp)))
  go_enter Tryz.func111, Tryz.ntmps111
  go_wp2_with fail
  refine ret_cell rfl w.heap.size 156 (pieceC false .empty op) rfl ((((((HZ1.out.set_far hne2 _).set_far hne2 _).set 0 _).set 1 _).set 2 _).set 3 _) Tryz.underlying156 rfl (by kernel_rfl) rfl ?_
  refine ⟨rfl, _, ⟨((((((HL1.out.setCell (.inl (by simp)) _).setCell (.inl (by simp)) _).setCell (.inr (Nat.le_refl _)) _).setCell (.inr (Nat.le_refl _)) _).setCell (.inr (Nat.le_refl _)) _).setCell (.inr (Nat.le_refl _)) _), ?_⟩, ((((((HB1.out.set 1 _).set 2 _).set_far hne1 _).set_far hne1 _).set_far hne1 _).set_far hne1 _), ?_⟩
  · intro k hk
    injection hk with hk
    subst hk
    right
    simp
  refine row_mono (row_keep HR1.out (((((((Keep.refl [a, w.heap.size] _).setCell (.inl (by simp)) _).setCell (.inl (by simp)) _).setCell (.inl (by simp)) _).setCell (.inl (by simp)) _).setCell (.inl (by simp)) _).setCell (.inl (by simp)) _) ?_) (by omega)
  intro g hg
  have : g = w.heap.size + 1 := by injection hg with hg; exact hg.symm
  simp; omega
set_option maxHeartbeats 4000000 in
set_option maxRecDepth 100000 in
theorem only_k (part : ByteArray) (a : Nat) (op : Bool) (v : Value) (xs : List UInt8) (w : World) (hp : part.size ≤ 1000) (hA : AsmV w a op v xs) :
    Calls Tryz.prog 113 #[.pointer (some ⟨a, 0, none⟩), .string part] w fun e w' => e = .returned (pieceV true part op) ∧ ∃ v', AsmTo w w' a v v' ∧ AsmV w' a false v' [] := by
  obtain ⟨hB, hR⟩ := hA
  have hal := hB.lt
  skip
  have HB0 := Lib.hid (hB.alloc (Obj.cells #[.bool false, .string ⟨#[]⟩, .int .i64 0, .bool false] 156))
  have HZ0 := Lib.hid (Blk.new w (pieceC false .empty false) 156)
  have c0 := HB0.out.cell 0
  have c1 := HB0.out.cell 1
  have c2 := HB0.out.cell 2
  simp only [List.getElem?_cons_zero, List.getElem?_cons_succ] at c0 c1 c2
  have hc0 := hB.cell 0
  have hc1 := hB.cell 1
  have hc2 := hB.cell 2
  have hf0 := hB.free 0
  have hf1 := hB.free 1
  have hf2 := hB.free 2
  simp only [List.getElem?_cons_zero, List.getElem?_cons_succ] at hc0 hc1 hc2
  have f0 := HB0.out.free 0
  have f1 := HB0.out.free 1
  have f2 := HB0.out.free 2
  have hne1 : a ≠ w.heap.size := by omega
  have hne2 : w.heap.size ≠ a := by omega
  have HBk := Lib.hid hB
  clear hB hR
  have HB1 := Lib.hid (((HBk.out.set 1 (.bool false)).set 2 (.slice none 0 0)).alloc (Obj.cells #[.bool false, .string ⟨#[]⟩, .int .i64 0, .bool false] 156))
  have HZ1 := Lib.hid (Blk.new_at ((w.setCell ⟨a, 1, none⟩ (.bool false)).setCell ⟨a, 2, none⟩ (.slice none 0 0)) (pieceC false .empty false) 156 w.heap.size (by simp))
  have HL1 := Lib.hid ((((Keep.refl (a :: v.ownBlock.toList) w).setCell (p := ⟨a, 1, none⟩) (.inl (by simp)) (.bool false)).setCell (p := ⟨a, 2, none⟩) (.inl (by simp)) (.slice none 0 0)).alloc (Obj.cells #[.bool false, .string ⟨#[]⟩, .int .i64 0, .bool false] 156))
  go_enter Tryz.func113, Tryz.ntmps113
  go_wp2_with fail
  refine (Clone_any part _ (by omega)).mono ?_
  rintro e w1 ⟨rfl, hL1⟩
  have HL2 := Lib.hid (HL1.out.below hL1 (by simp))
  skip
  have HB2 := Lib.hid (HB1.out.below hL1 (by simp; omega))
  have HZ2 := Lib.hid (HZ1.out.below hL1 (by simp)); clear hL1
  clear hc0 hc1 hc2 hf0 hf1 hf2 c0 c1 c2 f0 f1 f2
  have z0 := HZ2.out.cell 0
  have z1 := HZ2.out.cell 1
  have z2 := HZ2.out.cell 2
  have z3 := HZ2.out.cell 3
  simp only [pieceC, List.getElem?_cons_zero, List.getElem?_cons_succ] at z0 z1 z2 z3
  have y0 := HZ2.out.free 0
  have y1 := HZ2.out.free 1
  have y2 := HZ2.out.free 2
  have y3 := HZ2.out.free 3
  go_wp2_with fail
  refine ret_cell rfl w.heap.size 156 (pieceC true part op) rfl ((((HZ2.out.set 0 _).set 1 _).set 2 _).set 3 _) Tryz.underlying156 rfl (by kernel_rfl) rfl ?_
  exact ⟨rfl, _, ⟨((((HL2.out.setCell (.inr (Nat.le_refl _)) _).setCell (.inr (Nat.le_refl _)) _).setCell (.inr (Nat.le_refl _)) _).setCell (.inr (Nat.le_refl _)) _), fun k hk => by cases hk⟩, ((((HB2.out.set_far hne1 _).set_far hne1 _).set_far hne1 _).set_far hne1 _), row_nil _ _⟩
set_option maxHeartbeats 4000000 in
set_option maxRecDepth 100000 in
theorem middle_k (part : ByteArray) (a : Nat) (v : Value) (xs : List UInt8) (w : World) (hx : xs.length + part.size ≤ 1030) (hA : AsmV w a true v xs) :
    Calls Tryz.prog 110 #[.pointer (some ⟨a, 0, none⟩), .string part] w fun e w' => e = .returned (pieceV false .empty false) ∧ ∃ v', AsmTo w w' a v v' ∧ AsmV w' a true v' (xs ++ part.data.toList) := by
  obtain ⟨hB, hR⟩ := hA
  have hal := hB.lt
  have hlen : (xs ++ part.data.toList).length = xs.length + part.size := by simp
  obtain ⟨m, hm⟩ : ∃ m, m = (xs ++ part.data.toList).length := ⟨_, rfl⟩
  have hle : m ≤ 1030 := by omega
  have hm2 : m ≤ 3000 := by omega
  obtain ⟨oa, oc, rfl⟩ := row_form hR
  have hne1 : a ≠ w.heap.size := by omega
  have hne2 : w.heap.size ≠ a := by omega
  have HB0 := Lib.hid (hB.alloc (Obj.cells #[.bool false, .string ⟨#[]⟩, .int .i64 0, .bool false] 156))
  have HR0 := Lib.hid (row_keep hR ((Keep.refl [] w).alloc (Obj.cells #[.bool false, .string ⟨#[]⟩, .int .i64 0, .bool false] 156)) (by simp))
  have HZ0 := Lib.hid (Blk.new w (pieceC false .empty false) 156)
  have HL0 := Lib.hid ((Keep.refl (a :: (Value.slice oa xs.length oc).ownBlock.toList) w).alloc (Obj.cells #[.bool false, .string ⟨#[]⟩, .int .i64 0, .bool false] 156))
  have hrn := row_ne hR hB
  have c0 := HB0.out.cell 0
  have c1 := HB0.out.cell 1
  have c2 := HB0.out.cell 2
  simp only [List.getElem?_cons_zero, List.getElem?_cons_succ] at c0 c1 c2
  have HM := Lib.hid hm
  clear hB hR hm hlen
  go_enter Tryz.func110, Tryz.ntmps110
  go_wp2_with (at_builtin; refine append_stringm _ rfl _ _ rfl 0 _ _ rfl HR0.out part rfl ?c1 ?c2 ?_)
  case c1 => omega
  case c2 => exact Nat.zero_le _
  intro v2 w2 hR2 hK2 hmv2
  have HB2 := Lib.hid (HB0.out.keep hK2 (fun h => row_ne2 HR0.out HB0.out (by decide) a (by rwa [Option.mem_toList] at h) rfl))
  have HZ2 := Lib.hid (HZ0.out.keep hK2 (fun h => row_ne2 HR0.out HZ0.out (by decide) w.heap.size (by rwa [Option.mem_toList] at h) rfl))
  skip
  have HL2 := Lib.hid (HL0.out.trans (hK2.mono (fun i hi => List.mem_cons_of_mem _ hi)))
  have HMV := Lib.hid (show Mv w (.slice oa xs.length oc) v2 from fun k hk => (hmv2 k hk).imp id (fun h => by simp at h; omega))
  clear hmv2
  obtain ⟨oa2, oc2, hv2⟩ := row_form hR2
  rw [← HM.out] at hv2
  subst hv2
  have hq1 := row_ne2 hR2 HB2.out (by decide)
  have hq2 := row_ne2 hR2 HZ2.out (by decide)
  have HR2 := Lib.hid hR2
  clear hR2 hK2 c0 c1 c2
  have c0 := HB2.out.cell 0
  have c1 := HB2.out.cell 1
  have c2 := HB2.out.cell 2
  simp only [List.getElem?_cons_zero, List.getElem?_cons_succ] at c0 c1 c2
  have f0 := HB2.out.free 0
  have f1 := HB2.out.free 1
  have f2 := HB2.out.free 2
  have z0 := HZ2.out.cell 0
  have z1 := HZ2.out.cell 1
  have z2 := HZ2.out.cell 2
  have z3 := HZ2.out.cell 3
  simp only [pieceC, List.getElem?_cons_zero, List.getElem?_cons_succ] at z0 z1 z2 z3
  have y0 := HZ2.out.free 0
  have y1 := HZ2.out.free 1
  have y2 := HZ2.out.free 2
  have y3 := HZ2.out.free 3
  go_wp2_with fail
  refine ret_cell rfl w.heap.size 156 (pieceC false .empty false) rfl (((((HZ2.out.set_far hne2 _).set 0 _).set 1 _).set 2 _).set 3 _) Tryz.underlying156 rfl (by kernel_rfl) rfl ?_
  refine ⟨rfl, _, ⟨(((((HL2.out.setCell (.inl (by simp)) _).setCell (.inr (Nat.le_refl _)) _).setCell (.inr (Nat.le_refl _)) _).setCell (.inr (Nat.le_refl _)) _).setCell (.inr (Nat.le_refl _)) _), HMV.out⟩, (((((HB2.out.set 2 _).set_far hne1 _).set_far hne1 _).set_far hne1 _).set_far hne1 _), ?_⟩
  refine row_keep HR2.out ((((((Keep.refl [a, w.heap.size] _).setCell (.inl (by simp)) _).setCell (.inl (by simp)) _).setCell (.inl (by simp)) _).setCell (.inl (by simp)) _).setCell (.inl (by simp)) _) ?_
  intro g hg
  have h1 := hq1 g hg
  have h2 := hq2 g hg
  simp; omega
end
section
open Go.RowKit
theorem AsmV.below {w w' : World} {a : Nat} {op : Bool} {v : Value} {xs : List UInt8} (h : AsmV w a op v xs) (k : Below w.heap.size w w') : AsmV w' a op v xs := ⟨h.1.below k h.1.lt, row_below h.2 k (Nat.le_refl _)⟩
theorem AsmV.keep {S : List Nat} {w w' : World} {a : Nat} {op : Bool} {v : Value} {xs : List UInt8} (h : AsmV w a op v xs) (k : Keep S w w') (h1 : a ∉ S) (h2 : ∀ g, v.ownBlock = some g → g ∉ S) : AsmV w' a op v xs := ⟨h.1.keep k h1, row_keep h.2 k h2⟩
theorem AsmV.new_out {w : World} {a : Nat} {op : Bool} {v : Value} {xs : List UInt8} (h : AsmV w a op v xs) {b : Nat} (hb : w.heap.size ≤ b) : b ∉ a :: v.ownBlock.toList := by
  intro hm
  simp only [List.mem_cons, Option.mem_toList] at hm
  rcases hm with e | e
  · have := h.1.lt; omega
  · have := (row_lt h.2 _ e).2; omega
set_option maxHeartbeats 4000000 in
set_option maxRecDepth 100000 in
theorem last_k (part : ByteArray) (a : Nat) (v : Value) (xs : List UInt8) (w : World) (hx : xs.length + part.size ≤ 1030) (hA : AsmV w a true v xs) :
    Calls Tryz.prog 112 #[.pointer (some ⟨a, 0, none⟩), .string part] w fun e w' => e = .returned (pieceV true ⟨(xs ++ part.data.toList).toArray⟩ false) ∧ ∃ v', AsmTo w w' a v v' ∧ AsmV w' a false v' [] := by
  have hal : a < w.heap.size := hA.1.lt
  have hne1 : a ≠ w.heap.size := by omega
  have hne2 : w.heap.size ≠ a := by omega
  have HNW := Lib.hid (hA.new_out (Nat.le_refl w.heap.size))
  have hA0 := hA.below ((Below.refl w.heap.size w).alloc (Nat.le_refl _) (Obj.cells #[.bool false, .string ⟨#[]⟩, .int .i64 0, .bool false] 156))
  have HMID := Lib.hid (middle_k part a v xs _ hx hA0)
  have HZ0 := Lib.hid (Blk.new w (pieceC false .empty false) 156)
  have HL0 := Lib.hid ((Keep.refl (a :: v.ownBlock.toList) w).alloc (Obj.cells #[.bool false, .string ⟨#[]⟩, .int .i64 0, .bool false] 156))
  obtain ⟨xs1, hxs1⟩ : ∃ xs1, xs1 = xs ++ part.data.toList := ⟨_, rfl⟩
  rw [← hxs1] at HMID ⊢
  clear hA hA0 hxs1
  go_enter Tryz.func112, Tryz.ntmps112
  go_wp2_with fail
  refine HMID.out.mono ?_
  rintro e w1 ⟨rfl, v1, hT1, hA1⟩
  obtain ⟨hB1, hR1⟩ := hA1
  have hal1 := hB1.lt
  have hZ1 := HZ0.out.keep hT1.keep HNW.out
  have hzl := hZ1.lt
  have HL1 := Lib.hid (HL0.out.trans hT1.keep)
  have hwz := HL1.out.size
  have hzz : w.heap.size < w1.heap.size := hzl
  clear hT1
  have hn1 : a ≠ w1.heap.size := by omega
  have hn3 : w.heap.size ≠ w1.heap.size := by omega
  have b0 := hB1.cell 0
  have b1 := hB1.cell 1
  have b2 := hB1.cell 2
  have e0 := hB1.free 0
  have e1 := hB1.free 1
  have e2 := hB1.free 2
  simp only [List.getElem?_cons_zero, List.getElem?_cons_succ] at b0 b1 b2
  have z0 := hZ1.cell 0
  have z1 := hZ1.cell 1
  have z2 := hZ1.cell 2
  have z3 := hZ1.cell 3
  have y0 := hZ1.free 0
  have y1 := hZ1.free 1
  have y2 := hZ1.free 2
  have y3 := hZ1.free 3
  simp only [pieceC, List.getElem?_cons_zero, List.getElem?_cons_succ] at z0 z1 z2 z3
  have HR1 := Lib.hid hR1
  have HZ1 := Lib.hid hZ1; have HB1 := Lib.hid hB1; clear hZ1 hB1
  simp only [pieceV]
  obtain ⟨oa, oc, rfl⟩ := row_form hR1
  have hcv := run_string (row_keep hR1 ((Keep.refl [] w1).alloc (Obj.cells #[.bool false, .string .empty, .int .i64 0, .bool false] 156)) (by simp))
  obtain ⟨sx, hsx⟩ : ∃ sx : ByteArray, sx = ⟨xs1.toArray⟩ := ⟨_, rfl⟩
  rw [← hsx] at hcv
  have HSX := Lib.hid hsx
  clear hsx hR1
  have HCV := Lib.hid hcv; clear hcv
  go_wp2_with fail
  rw [HCV.out]
  simp only [Result.andThen]
  go_upto_region 5 with fail
  refine gen_world (fun W => Keep (a :: v.ownBlock.toList) w W ∧ Blk W a [.bool true, .bool false, .slice none 0 0] 112 ∧ Blk W w.heap.size (pieceC false .empty false) 156 ∧ Blk W w1.heap.size (pieceC true sx false) 156) ⟨((HL1.out.setCell (p := ⟨a, 1, none⟩) (.inl (by simp)) _).setCell (p := ⟨a, 2, none⟩) (.inl (by simp)) _).alloc _, ((HB1.out.set 1 _).set 2 _).alloc _, ((HZ1.out.set_far hne2 _).set_far hne2 _).alloc _, Blk.new_at _ (pieceC true sx false) 156 w1.heap.size (by simp)⟩ ?_
  clear z0 z1 z2 z3 y0 y1 y2 y3 b0 b1 b2 e0 e1 e2 HR1 HCV HZ1 HB1 HL1 HMID
  rintro w3 ⟨hL3, hB3, hZ3, hX3⟩
  have HL3 := Lib.hid hL3; have HB3 := Lib.hid hB3; have HZ3 := Lib.hid hZ3; have HX3 := Lib.hid hX3
  clear hL3 hB3 hZ3 hX3
  have z0 := HZ3.out.cell 0
  have z1 := HZ3.out.cell 1
  have z2 := HZ3.out.cell 2
  have z3 := HZ3.out.cell 3
  simp only [pieceC, List.getElem?_cons_zero, List.getElem?_cons_succ] at z0 z1 z2 z3
  have y0 := HZ3.out.free 0
  have y1 := HZ3.out.free 1
  have y2 := HZ3.out.free 2
  have y3 := HZ3.out.free 3
  have x0 := HX3.out.cell 0
  have x1 := HX3.out.cell 1
  have x2 := HX3.out.cell 2
  have x3 := HX3.out.cell 3
  simp only [pieceC, List.getElem?_cons_zero, List.getElem?_cons_succ] at x0 x1 x2 x3
  go_wp2_with fail
  refine ret_cell rfl w.heap.size 156 (pieceC true sx false) rfl ((((HZ3.out.set 0 _).set 1 _).set 2 _).set 3 _) Tryz.underlying156 rfl (by kernel_rfl) rfl ?_
  refine ⟨by rw [HSX.out]; rfl, _, ⟨((((HL3.out.setCell (.inr (Nat.le_refl _)) _).setCell (.inr (Nat.le_refl _)) _).setCell (.inr (Nat.le_refl _)) _).setCell (.inr (Nat.le_refl _)) _), fun k hk => by cases hk⟩, ((((HB3.out.set_far hne1 _).set_far hne1 _).set_far hne1 _).set_far hne1 _), row_nil _ _⟩
end
section
open Go.Shelf Go.RowKit
def shRen : Go.Shelf.Ren := ⟨fun | 105 => 63 | 212 => 91 | 99 => 92 | 165 => 93 | 166 => 65 | 170 => 94 | 169 => 66 | 263 => 105 | 264 => 106 | 206 => 107 | 240 => 90 | 241 => 108 | 276 => 104 | 277 => 115 | n => n, fun | 9 => 9 | 3 => 3 | 4 => 4 | 20 => 20 | 0 => 0 | 46 => 122 | 109 => 168 | 5 => 5 | 72 => 144 | 76 => 147 | 51 => 41 | 146 => 187 | 53 => 140 | 148 => 189 | 70 => 142 | 37 => 97 | 75 => 146 | 127 => 172 | 164 => 185 | 80 => 134 | n => n, fun | n => n⟩
theorem shLays : Lays.n105 Tryz.prog shRen := {
  mixed := by kernel_rfl
  f99 := Tryz.func92.trans (congrArg some (by kernel_rfl))
  f105 := Tryz.func63.trans (congrArg some (by kernel_rfl))
  f165 := Tryz.func93.trans (congrArg some (by kernel_rfl))
  f166 := Tryz.func65.trans (congrArg some (by kernel_rfl))
  f169 := Tryz.func66.trans (congrArg some (by kernel_rfl))
  f170 := Tryz.func94.trans (congrArg some (by kernel_rfl))
  f206 := Tryz.func107.trans (congrArg some (by kernel_rfl))
  f212 := Tryz.func91.trans (congrArg some (by kernel_rfl))
  f240 := Tryz.func90.trans (congrArg some (by kernel_rfl))
  f241 := Tryz.func108.trans (congrArg some (by kernel_rfl))
  f263 := Tryz.func105.trans (congrArg some (by kernel_rfl))
  f264 := Tryz.func106.trans (congrArg some (by kernel_rfl))
  f276 := Tryz.func104.trans (congrArg some (by kernel_rfl))
  f277 := Tryz.func115.trans (congrArg some (by kernel_rfl))
  t0 := Tryz.underlying0
  a0 := Tryz.isAgg0
  z0 := Tryz.sizeOf0
  v0 := Tryz.zeroValue0
  t3 := Tryz.underlying3
  a3 := Tryz.isAgg3
  z3 := Tryz.sizeOf3
  v3 := Tryz.zeroValue3
  t4 := Tryz.underlying4
  a4 := Tryz.isAgg4
  z4 := Tryz.sizeOf4
  v4 := Tryz.zeroValue4
  t5 := Tryz.underlying5
  a5 := Tryz.isAgg5
  z5 := Tryz.sizeOf5
  v5 := Tryz.zeroValue5
  t9 := Tryz.underlying9
  a9 := Tryz.isAgg9
  z9 := Tryz.sizeOf9
  v9 := Tryz.zeroValue9
  t20 := Tryz.underlying20
  a20 := Tryz.isAgg20
  z20 := Tryz.sizeOf20
  v20 := Tryz.zeroValue20
  t37 := Tryz.underlying97
  a37 := Tryz.isAgg97
  z37 := Tryz.sizeOf97
  v37 := Tryz.zeroValue97
  t46 := Tryz.underlying122
  a46 := Tryz.isAgg122
  z46 := Tryz.sizeOf122
  v46 := Tryz.zeroValue122
  t51 := Tryz.underlying41
  a51 := Tryz.isAgg41
  z51 := Tryz.sizeOf41
  v51 := Tryz.zeroValue41
  t53 := Tryz.underlying140
  a53 := Tryz.isAgg140
  z53 := Tryz.sizeOf140
  v53 := Tryz.zeroValue140
  t70 := Tryz.underlying142
  a70 := Tryz.isAgg142
  z70 := Tryz.sizeOf142
  v70 := Tryz.zeroValue142
  t72 := Tryz.underlying144
  a72 := Tryz.isAgg144
  z72 := Tryz.sizeOf144
  v72 := Tryz.zeroValue144
  t75 := Tryz.underlying146
  a75 := Tryz.isAgg146
  z75 := Tryz.sizeOf146
  v75 := Tryz.zeroValue146
  t76 := Tryz.underlying147
  a76 := Tryz.isAgg147
  z76 := Tryz.sizeOf147
  v76 := Tryz.zeroValue147
  t109 := Tryz.underlying168
  a109 := Tryz.isAgg168
  z109 := Tryz.sizeOf168
  v109 := Tryz.zeroValue168
  t127 := Tryz.underlying172
  a127 := Tryz.isAgg172
  z127 := Tryz.sizeOf172
  v127 := Tryz.zeroValue172
  t146 := Tryz.underlying187
  a146 := Tryz.isAgg187
  z146 := Tryz.sizeOf187
  v146 := Tryz.zeroValue187
  t148 := Tryz.underlying189
  a148 := Tryz.isAgg189
  z148 := Tryz.sizeOf189
  v148 := Tryz.zeroValue189
  t164 := Tryz.underlying185
  a164 := Tryz.isAgg185
  z164 := Tryz.sizeOf185
  v164 := Tryz.zeroValue185 }
theorem shExtra : Builder.Extra Tryz.prog shRen := {
  sizeBuilder := by kernel_rfl
  liesBuilder := by kernel_rfl
  t5 := Tryz.underlying5
  a5 := Tryz.isAgg5
  z5 := Tryz.sizeOf5
  v5 := Tryz.zeroValue5
  infoByte := by kernel_rfl
  cellsByte := by kernel_rfl
  sizeByte := by kernel_rfl
  neB5 := by decide }
theorem Repeat_any (s : ByteArray) (c : Nat) (w : World) (hc : c ≤ 9223372036854775807) (hlen : s.size * c ≤ 140737488355328) :
    Calls Tryz.prog 63 #[.string s, .int .i64 c] w fun e w' => e = .returned (.string ⟨(Lib.repeatL s.data.toList c).toArray⟩) ∧ Below w.heap.size w w' := Any.strings_Repeat shLays shExtra s c w hc hlen
theorem bCopy_any (B b : Nat) (bs : List Value) (w : World) (h : Lib.IsBuilder 144 5 B b bs w) :
    Calls Tryz.prog 90 #[.pointer (some ⟨b, 0, none⟩)] w fun e w' => e = .returned (.tuple #[]) ∧ (Lib.BuilderAt 144 5 B b (.pointer (some ⟨b, 0, none⟩)) bs w' ∧ Below B w w') :=
  Any.Builder_copyCheck ({ shLays with } : Lays.n240 Tryz.prog shRen) shExtra.toX72 B b bs w h
theorem WriteString_any (B b : Nat) (bs : List Value) (s : ByteArray) (w : World) (h : Lib.IsBuilder 144 5 B b bs w) (hlen : bs.length + s.size ≤ 140737488355328) (hBw : B ≤ w.heap.size) :
    Calls Tryz.prog 65 #[.pointer (some ⟨b, 0, none⟩), .string s] w fun e w' => e = .returned (.tuple #[.int .i64 s.size, .nilIface]) ∧ (Lib.BuilderAt 144 5 B b (.pointer (some ⟨b, 0, none⟩)) (bs ++ Lib.strCells s) w' ∧ Below B w w') :=
  Any.Builder_WriteString ({ shLays with } : Lays.n166 Tryz.prog shRen) shExtra B b bs s w h hlen hBw
theorem bString_any (B b : Nat) (l : List UInt8) (w : World) (h : Lib.IsBuilder 144 5 B b (Lib.byteCells l) w) (hBw : B ≤ w.heap.size) :
    Calls Tryz.prog 66 #[.pointer (some ⟨b, 0, none⟩)] w fun e w' => e = .returned (.string ⟨l.toArray⟩) ∧ Below B w w' :=
  Any.Builder_String_any ({ shLays with } : Lays.n169 Tryz.prog shRen) shExtra B b l w h hBw
set_option maxHeartbeats 2000000 in
set_option maxRecDepth 100000 in
theorem Write_any (B b : Nat) (bs : List Value) (ad : Addr) (m c : Nat) (news : List Value) (w : World) (h : Lib.IsBuilder 144 5 B b bs w)
    (hl : news.length = m) (hnews : ∀ j u, news[j]? = some u → w.cell? (ad.add j) = some u) (hadB : ad.block < B) (h1 : ∀ u ∈ news, u.oneCell' = true)
    (hlen : bs.length + m ≤ 140737488355328) (hBw : B ≤ w.heap.size) :
    Calls Tryz.prog 62 #[.pointer (some ⟨b, 0, none⟩), .slice (some ad) m c] w fun e w' => e = .returned (.tuple #[.int .i64 m, .nilIface]) ∧ (Lib.BuilderAt 144 5 B b (.pointer (some ⟨b, 0, none⟩)) (bs ++ news) w' ∧ Below B w w') := by
  obtain ⟨i0, hi, hz0, hz1, hz2⟩ := info_parts info_u8
  have cC := bCopy_any B b bs w h
  go_enter Tryz.func62, Tryz.ntmps62
  go_wp2_with fail
  refine cC.mono ?_
  rintro e w1 ⟨rfl, h1', hb1⟩
  obtain ⟨hB, v, hbk, hown, hne⟩ := h1'
  have c0 : w1.cell? ⟨b, 0, none⟩ = some (.pointer (some ⟨b, 0, none⟩)) := by rw [Lib.cell_of_heap hbk]; rfl
  have c1 : w1.cell? ⟨b, 1, none⟩ = some v := by rw [Lib.cell_of_heap hbk]; rfl
  have hnews1 : ∀ j u, news[j]? = some u → w1.cell? (ad.add j) = some u := fun j u hj => by rw [hb1.cell (p := ad.add j) (by unfold Addr.add; split <;> exact hadB)]; exact hnews j u hj
  go_wp2_with (at_builtin; refine wpList_append_own _ rfl _ _ 97 rfl B 5 i0 (.int .u8 0) 1 1 Tryz.underlying97 hi hz0 hz1 hz2 rfl (by decide) _ _ _ rfl hown ad m c news rfl (by omega) hnews1 h1 ?c3 ?c4 ?c5 ?_)
  case c3 => unfold maxLen; omega
  case c4 => omega
  case c5 => have := hb1.size; omega
  intro v' w2 hown' hgrow _
  have hlt : b < w1.heap.size := by
    rcases Nat.lt_or_ge b w1.heap.size with h' | h'
    · exact h'
    · simp [Array.getElem?_eq_none h'] at hbk
  have hb2 : w2.heap[b]? = some (.cells #[.pointer (some ⟨b, 0, none⟩), v] 144 (0, 0)) := by
    rw [hgrow.block b hlt (fun e => hne e.symm)]
    exact hbk
  have d0 : w2.cell? ⟨b, 0, none⟩ = some (.pointer (some ⟨b, 0, none⟩)) := by rw [Lib.cell_of_heap hb2]; rfl
  have d1 : w2.cell? ⟨b, 1, none⟩ = some v := by rw [Lib.cell_of_heap hb2]; rfl
  have f1 : w2.frozen? ⟨b, 1, none⟩ = false := Lib.frozen_of_heap hb2 1
  obtain ⟨ao, n', cap, rfl⟩ : ∃ ao n' cap, v' = .slice ao n' cap := by
    rcases hown'.2 with ⟨hv, _⟩ | ⟨g, cap, cur, hv, _⟩
    · exact ⟨_, _, _, hv⟩
    · exact ⟨_, _, _, hv⟩
  go_wp2_with fail
  go_ret2
  refine ⟨rfl, ?_, ?_⟩
  · exact Lib.BuilderAt.put (T := 144) (e := 5) hB hb2 (bs' := bs ++ news) (by simpa [hl] using hown') (by decide)
  · exact (hb1.grown hgrow (by have := hb1.size; omega) (fun k hk => (hown.lt k hk).1)).setCell (p := ⟨b, 1, none⟩) hB _
end
section
open Go.RowKit
def parN (l : List UInt8) : UInt8 := UInt8.ofNat (254 - 2 * remL l)
def blockL (l : List UInt8) : List UInt8 := l ++ [parN l]
def blocksN : Nat → List UInt8 → List UInt8
  | 0, _ => []
  | n + 1, l => blockL (l.take 7) ++ blocksN n (l.drop 7)
def padN (n : Nat) : Nat := (7 - n % 7) % 7
def padL (l : List UInt8) : List UInt8 := l ++ List.replicate (padN l.length) 85
def tailL : List UInt8 := [0, 0, 0, 0, 0, 0, 0, 248]
def putL (l : List UInt8) : List UInt8 := [235, 144] ++ blocksN ((padL l).length / 7) (padL l) ++ tailL
theorem par_op : ∀ r : Nat, r < 128 → (bits .xor .u8 IntKind.u8.max (r : Int)) * 2 % 256 = ((254 - 2 * r : Nat) : Int) := by decide +kernel
theorem bld_below {w w' : World} {B b : Nat} {p : Value} {bs : List Value} (h : Lib.BuilderAt 144 5 B b p bs w) (k : Below w.heap.size w w') : Lib.BuilderAt 144 5 B b p bs w' := by
  have hlt := h.lt
  obtain ⟨hB, v, hb, hown, hne⟩ := h
  refine ⟨hB, v, (k.block b hlt).trans hb, ⟨hown.1, ?_⟩, hne⟩
  rcases hown.2 with e | ⟨g, cap, cur, hv, hg, hc, h1⟩
  · exact .inl e
  · refine .inr ⟨g, cap, cur, hv, hg, (k.block g ?_).trans hc, h1⟩
    rcases Nat.lt_or_ge g w.heap.size with h' | h'
    · exact h'
    · simp [Array.getElem?_eq_none h'] at hc
attribute [local go_sem] run_bytes bytes_size
set_option maxHeartbeats 8000000 in
set_option maxRecDepth 100000 in
theorem Block_any (b : ByteArray) (w : World) (hb : b.size = 7) (hG : Gl w) : Calls Tryz.prog 64 #[.string b] w fun e w' => e = .returned (.tuple #[strOf (blockL b.data.toList), .int .i64 0]) ∧ Below w.heap.size w w' := by
  have HR := Lib.hid (remainder_any b w (by omega) hG)
  have hr := remL_lt b.data.toList
  obtain ⟨r, hre⟩ : ∃ r, r = remL b.data.toList := ⟨_, rfl⟩
  rw [← hre] at hr HR
  have hp := par_op r hr
  have HE := Lib.hid hre
  clear hG hre
  have k7 : ¬ (b.size : Int) ≠ 7 := by omega
  go_enter Tryz.func64, Tryz.ntmps64
  go_wp2_with fail
  refine HR.out.mono ?_
  rintro e w1 ⟨rfl, hL⟩
  have HL := Lib.hid hL; clear hL
  obtain ⟨c, hc⟩ : ∃ c : UInt8, c = UInt8.ofNat (254 - 2 * r) := ⟨_, rfl⟩
  have hcn : ((254 - 2 * r : Nat) : Int) = (c.toNat : Int) := by rw [hc]; simp; omega
  rw [hcn] at hp
  have HC := Lib.hid hc
  have hB := Blk.new w1 [vb c] 5
  have hcv : (convert 97 9 (.slice (some ⟨w1.heap.size, 0, none⟩) 1 1)).run Tryz.prog (w1.alloc (Obj.cells #[.int .u8 (c.toNat : Int)] 5)) = .ok (.string ⟨[c].toArray⟩) (w1.alloc (Obj.cells #[.int .u8 (c.toNat : Int)] 5)) :=
    run_convert_bytes_back _ 97 9 5 ⟨w1.heap.size, 0, none⟩ 1 [c] Tryz.underlying97 Tryz.underlying5 Tryz.underlying9 (fun j hj => by
      have e : j = 0 := by simp at hj; omega
      subst e
      exact hB.cell 0)
  clear hcn hc hB
  go_wp2_with fail
  go_ret2
  refine ⟨?_, HL.out.trans (((Below.refl _ _).alloc (Nat.le_refl _) _).mono HL.out.size)⟩
  have e : (⟨[c].toArray⟩ : ByteArray).data.toList = [c] := rfl
  unfold strOf blockL parN
  rw [← HE.out, ← HC.out]
  congr 2
theorem blocksN_succ (l : List UInt8) (k : Nat) : blocksN (k + 1) l = blocksN k l ++ blockL ((l.drop (7 * k)).take 7) := by
  induction k generalizing l with
  | zero => simp [blocksN]
  | succ k ih =>
    rw [show blocksN (k + 1 + 1) l = blockL (l.take 7) ++ blocksN (k + 1) (l.drop 7) from rfl, ih]
    rw [show blocksN (k + 1) l = blockL (l.take 7) ++ blocksN k (l.drop 7) from rfl, List.drop_drop, List.append_assoc]
    rw [show 7 + 7 * k = 7 * (k + 1) by omega]
theorem padL_len (l : List UInt8) : (padL l).length % 7 = 0 ∧ (padL l).length = l.length + padN l.length := by
  unfold padL padN
  simp
  omega
theorem emp_no (s : ByteArray) (h : 1 ≤ s.size) : s.toList.isEmpty = false := by
  rw [toList_data]
  cases he : s.data.toList with
  | nil => have h2 : s.data.toList.length = s.size := by simp
           rw [he] at h2; simp at h2; omega
  | cons a l => rfl
theorem emp_yes (s : ByteArray) (h : s.data.toList = []) : s.toList.isEmpty = true := by rw [toList_data, h]; rfl
theorem byteCells_app (l m : List UInt8) : Lib.byteCells l ++ Lib.byteCells m = Lib.byteCells (l ++ m) := by simp [Lib.byteCells]
theorem strCells_eq (s : ByteArray) : Lib.strCells s = Lib.byteCells s.data.toList := rfl
set_option maxHeartbeats 8000000 in
set_option maxRecDepth 100000 in
theorem clPut_any (b : ByteArray) (w : World) (h1 : 1 ≤ b.size) (h2 : b.size ≤ 350) (hG : Gl w) : Calls Tryz.prog 35 #[.string b] w fun e w' => e = .returned (.tuple #[strOf (putL b.data.toList), .int .i64 0]) ∧ Below w.heap.size w w' := by
  have HG := Lib.hid hG
  have k1 := emp_no b h1
  have k2 : ¬ (350 : Int) < b.size := by omega
  have hfb := Lib.fresh_isBuilder 144 5 w
  have hL0 : Below w.heap.size w (w.alloc (Obj.cells #[.pointer none, .slice none 0 0] 144)) := (Below.refl _ _).alloc (Nat.le_refl _) _
  have hG0 := hG.below hL0 (Nat.le_refl _)
  have hlt := hG.lt
  have HW := Lib.hid (Write_any w.heap.size w.heap.size [] ⟨0, 0, none⟩ 2 2 [.int .u8 235, .int .u8 144] _ hfb rfl (fun j u hj => by
    have hj2 : j = 0 ∨ j = 1 := by
      have : j < 2 := by
        rcases Nat.lt_or_ge j 2 with h | h
        · exact h
        · rw [List.getElem?_eq_none (by simpa using h)] at hj; cases hj
      omega
    rcases hj2 with rfl | rfl
    · injection hj with hj; subst hj; exact hG0.s0
    · injection hj with hj; subst hj; exact hG0.s1) (by show 0 < w.heap.size; omega) (by intro u hu; simp at hu; rcases hu with rfl | rfl <;> rfl) (by simp) (by simp))
  have HL0 := Lib.hid hL0
  clear hfb hG hL0 hG0 hlt
  go_enter Tryz.func35, Tryz.ntmps35
  go_wp2_with fail
  refine HW.out.mono ?_
  rintro e w1 ⟨rfl, hB1, hL1⟩
  have HB1 := Lib.hid hB1; have HL1 := Lib.hid (HL0.out.trans hL1)
  clear hB1 hL1 HW HL0
  go_wp2_with fail
  have hpn : (-((b.size : Int) % 7) % 7) = ((padN b.size : Nat) : Int) := by unfold padN; omega
  have hp7 : padN b.size ≤ 6 := by unfold padN; omega
  rw [hpn]
  refine (Repeat_any ⟨#[85]⟩ (padN b.size) _ (by omega) (by show 1 * padN b.size ≤ _; omega)).mono ?_
  rintro e w2 ⟨rfl, hL2⟩
  have HL2 := Lib.hid (HL1.out.trans (hL2.mono HL1.out.size)); have HB2 := Lib.hid (bld_below HB1.out hL2)
  clear hL2 HL1 HB1
  have hrl : (Lib.repeatL [(85 : UInt8)] (padN b.size)).length = padN b.size := by rw [Lib.repeatL_length]; simp
  have k3 : ¬ 9223372036854775807 < b.size + (Lib.repeatL [(85 : UInt8)] (padN b.size)).length := by omega
  go_wp2_with fail
  obtain ⟨L, hL⟩ : ∃ L, L = padL b.data.toList := ⟨_, rfl⟩
  have hsz : b.data.toList.length = b.size := by simp
  have hF : (b ++ (⟨(Lib.repeatL [(85 : UInt8)] (padN b.size)).toArray⟩ : ByteArray)).data.toList = L := by
    rw [hL]; unfold padL
    rw [hsz, ByteArray.data_append, Array.toList_append]
    congr 1
    have := Lib.repeatL_replicate (85 : UInt8) 1 (padN b.size)
    simpa using this
  generalize b ++ (⟨(Lib.repeatL [(85 : UInt8)] (padN b.size)).toArray⟩ : ByteArray) = F0 at hF
  have hLl := padL_len b.data.toList
  rw [← hL, hsz] at hLl
  obtain ⟨m, hm⟩ : ∃ m, L.length = 7 * m := ⟨L.length / 7, by omega⟩
  have hm2 : m ≤ 60 := by omega
  have hput : putL b.data.toList = [235, 144] ++ blocksN m L ++ tailL := by unfold putL; rw [← hL, hm]; congr 3; omega
  have hB0 : Lib.BuilderAt 144 5 w.heap.size w.heap.size (.pointer (some ⟨w.heap.size, 0, none⟩)) (Lib.byteCells ([235, 144] ++ blocksN 0 L)) w2 := HB2.out
  have HB0 := Lib.hid hB0; have HPUT := Lib.hid hput; have HM := Lib.hid hm
  have hblen : ∀ k l, 7 * k ≤ (l : List UInt8).length → (blocksN k l).length = 8 * k := by
    intro k
    induction k with
    | zero => intro l _; rfl
    | succ k ih =>
      intro l h
      show (blockL (l.take 7) ++ blocksN k (l.drop 7)).length = _
      rw [List.length_append, ih _ (by rw [List.length_drop]; omega)]
      simp [blockL]
      omega
  have HBL := Lib.hid hblen
  clear hL hLl hput hB0 HB2 hblen hpn hp7 k3 hrl hm
  go_loopw [0] (fun f wr => ∃ (k : Nat) (F : ByteArray), k ≤ m ∧ f = .string F ∧ F.data.toList = L.drop (7 * k) ∧ Lib.BuilderAt 144 5 w.heap.size w.heap.size (.pointer (some ⟨w.heap.size, 0, none⟩)) (Lib.byteCells ([235, 144] ++ blocksN k L)) wr ∧ Below w.heap.size w wr) (fun f _ => match f with | .string F => F.size | _ => 0)
  case atStart => exact ⟨0, F0, Nat.zero_le _, rfl, by rw [hF]; simp, HB0.out, HL2.out⟩
  case round =>
    obtain ⟨k, F, hk, rfl, hFk, hBk, hLk⟩ := hrel
    have hFs : F.size = 7 * (m - k) := by
      have h := congrArg List.length hFk
      rw [List.length_drop, HM.out] at h
      have h' : F.data.toList.length = F.size := by simp
      omega
    have HFK := Lib.hid hFk; have HBK := Lib.hid hBk; have HLK := Lib.hid hLk
    clear hFk hBk hLk HB0 HL2 hF
    by_cases hlt : k < m
    · have k4 := emp_no F (by omega)
      have k5 : (7 : Int) ≤ F.size := by omega
      have h7 : (F.extract 0 7).size = 7 := by rw [ByteArray.size_extract]; omega
      have HBLK := Lib.hid (Block_any (F.extract 0 7) wr h7 (HG.out.below HLK.out (Nat.le_refl _)))
      have hsl : (F.extract 0 7).data.toList = (L.drop (7 * k)).take 7 := by rw [ByteArray.data_extract, Array.toList_extract, ← HFK.out]; simp
      rw [hsl] at HBLK
      have HSL := Lib.hid hsl
      clear hsl h7
      go_wp2_with fail
      refine HBLK.out.mono ?_
      rintro e w3 ⟨rfl, hL3⟩
      have HL3 := Lib.hid (HLK.out.trans (hL3.mono HLK.out.size)); have HB3 := Lib.hid (bld_below HBK.out hL3)
      clear hL3 HLK HBK HBLK
      go_wp2_with fail
      have hblk : (blockL ((L.drop (7 * k)).take 7)).length = 8 := by
        have hd : ((L.drop (7 * k)).take 7).length = 7 := by rw [List.length_take, List.length_drop, HM.out]; omega
        simp [blockL, hd]
      refine (WriteString_any w.heap.size w.heap.size _ ⟨(blockL ((L.drop (7 * k)).take 7)).toArray⟩ w3 (.inr HB3.out) (by rw [Lib.byteCells_length, List.length_append, HBL.out k L (by rw [HM.out]; omega)]; show _ + (blockL _).toArray.size ≤ _; rw [List.size_toArray, hblk]; simp; omega) HL3.out.size).mono ?_
      rintro e w4 ⟨rfl, hB4, hL4⟩
      rw [strCells_eq, byteCells_app, List.append_assoc] at hB4
      have hB5 : Lib.BuilderAt 144 5 w.heap.size w.heap.size (.pointer (some ⟨w.heap.size, 0, none⟩)) (Lib.byteCells ([235, 144] ++ blocksN (k + 1) L)) w4 := by rw [blocksN_succ]; exact hB4
      have HB5 := Lib.hid hB5; have HL5 := Lib.hid (HL3.out.trans hL4)
      clear hB4 hL4 hB5 HB3 HL3 hblk
      go_wp2_with fail
      refine ⟨⟨k + 1, F.extract 7 (7 * (m - k)), by omega, rfl, ?_, HB5.out, HL5.out⟩, ?_⟩
      · rw [ByteArray.data_extract, Array.toList_extract, HFK.out, show 7 * (k + 1) = 7 * k + 7 by omega, ← List.drop_drop]
        simp [List.extract_eq_take_drop]
        apply List.take_of_length_le
        simp [HM.out]; omega
      · show (F.extract 7 (7 * (m - k))).size < F.size
        rw [ByteArray.size_extract]; omega
    · obtain rfl : k = m := by omega
      have hFe : F.data.toList = [] := by
        rw [HFK.out]; apply List.drop_of_length_le; rw [HM.out]; omega
      have k4 := emp_yes F hFe
      clear hFe
      go_wp2_with fail
      refine (WriteString_any w.heap.size w.heap.size _ ⟨tailL.toArray⟩ wr (.inr HBK.out) (by rw [Lib.byteCells_length, List.length_append, HBL.out k L (by rw [HM.out]; omega)]; show _ + tailL.toArray.size ≤ _; rw [List.size_toArray]; simp [tailL]; omega) HLK.out.size).mono ?_
      rintro e w4 ⟨rfl, hB4, hL4⟩
      rw [strCells_eq, byteCells_app] at hB4
      have HB4 := Lib.hid hB4; have HL4 := Lib.hid (HLK.out.trans hL4)
      clear hB4 hL4 HBK HLK
      go_wp2_with fail
      refine (bString_any w.heap.size w.heap.size _ w4 (.inr HB4.out) HL4.out.size).mono ?_
      rintro e w5 ⟨rfl, hL5⟩
      have HL5 := Lib.hid (HL4.out.trans hL5)
      clear hL5 HL4 HB4
      go_wp2_with fail
      go_ret2
      refine ⟨?_, HL5.out⟩
      rw [HPUT.out]
      rfl
end
namespace Fb
section
def pc (n : Nat) : Nat :=
  let a := n - (n / 2 &&& 85)
  let b := (a &&& 51) + (a / 4 &&& 51)
  (b + b / 16) &&& 15
def allB : Nat → (Nat → Bool) → Bool
  | 0, _ => true
  | n + 1, f => f n && allB n f
theorem allB_spec {n : Nat} {f : Nat → Bool} (h : allB n f = true) : ∀ i, i < n → f i = true := by
  induction n with
  | zero => intro i hi; omega
  | succ n ih =>
    simp only [allB, Bool.and_eq_true] at h
    intro i hi
    rcases Nat.lt_or_ge i n with h1 | h1
    · exact ih h.2 i h1
    · have : i = n := by omega
      subst this; exact h.1
def oc (v c : Nat) : Nat := if v < 256 then pc (v ^^^ c) else if v = 257 then c % 2 else 0
def lo5 (w : Nat) : Nat := if w < 256 then (if 8 ≤ w ∧ w ≤ 206 then 0 else 1) else 0
def ff (w7 w8 : Nat) : Nat := min (min (oc w7 0) (oc w7 128)) (min (oc w7 64) (oc w7 192) + oc w8 16)
def lbL (w : List Nat) : Nat := match w with
  | w0 :: w1 :: w2 :: w3 :: w4 :: w5 :: _ :: w7 :: w8 :: _ => (oc w0 235 + oc w1 144 - 1) + (oc w2 0 + oc w3 1 + oc w4 0 + lo5 w5 + ff w7 w8 - 1)
  | _ => 0
def rampB (y : Nat) : List Nat := [y % 256, (y + 1) % 256, (y + 2) % 256, (y + 3) % 256, (y + 4) % 256, (y + 5) % 256, (y + 6) % 256, 257]
def mlU (F x : Nat) : List Nat := [235, 144, 0, 1, 0, 256, 256, F, x % 256, 257] ++ rampB (x + 1) ++ rampB (x + 8)
def foU (F Ch cl lh : Nat) : List Nat := [235, 144, 0, 1, 0, 256, 256, F, 16, 257] ++ [0, Ch, cl, lh, 256, cl, (cl + 1) % 256, 257] ++ rampB (cl + 2) ++ rampB (cl + 9)
def ramU (y : Nat) : List Nat := rampB y ++ rampB (y + 7) ++ rampB (y + 14)
set_option maxRecDepth 100000
theorem ram_ok : (allB 256 fun y => allB 8 fun r => (r == 6 && y == 249) || decide (5 ≤ lbL ((ramU y).drop r))) = true := by decide +kernel
theorem ml_ok : (allB 2 fun F => allB 256 fun x => allB 10 fun o => o == 0 || o == 5 || (o == 6 && (x == 0 || x == 128 && F == 1)) || (o == 8 && x == 255) || decide (5 ≤ lbL ((mlU (128 * F) x).drop o))) = true := by decide +kernel
theorem fo_ok : (allB 2 fun F => allB 3 fun Ch => allB 256 fun cl => allB 2 fun lh => allB 18 fun o => o == 0 || o == 5 || o == 6 || (o == 9 && cl == 1 && Ch == 0 && lh == 0) || (o == 11 && cl == 128 && lh == 0 && (Ch == 1 || Ch == 2)) || (o == 16 && cl == 254) || decide (5 ≤ lbL ((foU (64 + 128 * F) (192 + Ch) cl lh).drop o))) = true := by decide +kernel
end
end Fb
end Go.Proofs.YtgopighmifpefaaGreatDoor
