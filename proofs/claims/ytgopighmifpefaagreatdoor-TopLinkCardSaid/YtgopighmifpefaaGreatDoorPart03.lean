/- What is proved here: a part of the proof of TopLink (texts Fo1 Ret). No condition. -/
import Derived.Deep.DeepCutAuto
import Derived.IntWalk
import Derived.Laws.ResultCell
import Derived.Laws.Rows
import Derived.Test.YtgopighmifpefaaGreatDoorPart01
import Derived.Test.YtgopighmifpefaaGreatDoorPart02
set_option linter.unusedVariables false
set_option linter.unusedSimpArgs false
namespace Go.Proofs.YtgopighmifpefaaGreatDoor
section
open Go.RowKit
structure Ut where
  id : Int
  data : ByteArray
  mark : Bool
structure Ev where
  kind : Int
  id : Int
  why : Int
def Ut.cells (u : Ut) : List Value := [.int .i64 u.id, .string u.data, .bool u.mark]
def Ev.cells (u : Ev) : List Value := [.int .i64 u.kind, .int .i64 u.id, .int .i64 u.why]
theorem info_unit : (Tryz.prog.info? 74).map (fun i => (i.zero, i.size, i.bytes)) = some (some (.agg #[.int .i64 0, .string ⟨#[]⟩, .bool false]), 3, 32) := by kernel_rfl
theorem info_ev : (Tryz.prog.info? 83).map (fun i => (i.zero, i.size, i.bytes)) = some (some (.agg #[.int .i64 0, .int .i64 0, .int .i64 0]), 3, 24) := by kernel_rfl
theorem info_s1 : (Tryz.prog.info? 9).map (fun i => (i.zero, i.size, i.bytes)) = some (some (.string ⟨#[]⟩), 1, 16) := by kernel_rfl
theorem step_append_q {ops : Array Oper} {o : Oper} {a : Act} {w : World} {K : Act → World → Prop} {Q : Exit → Act → World → Prop} {Z : Prop} (t E : TypeId) (sz bytes : Nat) (i : TypeInfo) (z : Value) (hgd : o.guard = none) (s x : Operand)
    (ho : o.op = .call { callee := .builtin .append, args := #[s, x], argTypes := #[t, t] }) (ht : Tryz.prog.underlying t = some (.slice E))
    (hi : Tryz.prog.info? E = some i) (hz : i.zero = some z) (hzs : z.cells.size = sz) (hsize : i.size = sz) (hby : i.bytes = bytes)
    (base : Nat) (v : Value) (n : Nat) (xs : List Value) (hs : a.eval s = v) (hrow : QRow w base E sz v n xs) (g off m c : Nat) (news : List Value) (hx : a.eval x = .slice (some ⟨g, off, none⟩) m c) (hl : news.length = m * sz) (hone : ∀ u ∈ news, u.oneCell' = true) (hc : ∀ j u, news[j]? = some u → w.cell? ⟨g, off + j, none⟩ = some u)
    (hlen : (n + m) * bytes ≤ 140737488355328) (hm63 : n + m ≤ maxLen) (hbase : base ≤ w.heap.size)
    (h : ∀ v' w', QRow w' base E sz v' (n + m) (xs ++ news) → Keep v.ownBlock.toList w w' → (v'.ownBlock = v.ownBlock ∨ v'.ownBlock = some w.heap.size) → K (a.put o.dst v') w') :
    if Region.wanted o (yielded ops a.tmps) = true then Oper.wp Tryz.prog o a w K Q else Z := by
  have hw : Region.wanted o (yielded ops a.tmps) = true := by simp [Region.wanted, hgd]
  obtain ⟨v', w', hr, h2, h3, h4⟩ := run_append_qc (P := Tryz.prog) w base t o.type E sz bytes i z ht hi hz hzs hsize hby v n xs hrow g off m c news hl hone hc hlen hm63 hbase
  rw [if_pos hw]
  unfold Oper.wp execOp
  simp only [ho, resolve, invoke, builtin, Sem.run_bind, Sem.run_pure, Result.andThen_ok, List.map_toArray, List.map_cons, List.map_nil, hs, hx, hr]
  exact h _ _ h2 h3 h4
theorem step_build_1 {ops : Array Oper} {o : Oper} {a : Act} {W : World} {K : Act → World → Prop} {Q : Exit → Act → World → Prop} {E : Prop} (t E0 : TypeId) (cs : List Value) (hgd : o.guard = none) (x : Operand)
    (ho : o.op = .buildSlice t 1 #[(0, x)]) (v : Value) (hx : a.eval x = v) (hrun : (Instr.buildSlice t 1 #[(0, v)]).run Tryz.prog W = .ok (.slice (some ⟨W.heap.size, 0, none⟩) 1 1) (W.alloc (.cells cs.toArray E0)))
    (h : K (a.put o.dst (.slice (some ⟨W.heap.size, 0, none⟩) 1 1)) (W.alloc (.cells cs.toArray E0))) :
    if Region.wanted o (yielded ops a.tmps) = true then Oper.wp Tryz.prog o a W K Q else E := by
  have hw : Region.wanted o (yielded ops a.tmps) = true := by simp [Region.wanted, hgd]
  rw [if_pos hw]
  have hr : (execOp a.eval o).run Tryz.prog W = .ok (.value (.slice (some ⟨W.heap.size, 0, none⟩) 1 1)) (W.alloc (.cells cs.toArray E0)) := by
    unfold execOp
    simp only [ho]
    simp only [List.map_toArray, List.map_cons, List.map_nil, hx, Sem.run_bind, Sem.run_pure, hrun, Result.andThen_ok]
  unfold Oper.wp
  rw [hr]
  exact h
theorem build_unit (W : World) (n : Int) (d : ByteArray) (b : Bool) : (Instr.buildSlice 66 1 #[(0, .agg #[.int .i64 n, .string d, .bool b])]).run Tryz.prog W = .ok (.slice (some ⟨W.heap.size, 0, none⟩) 1 1) (W.alloc (Obj.cells [.int .i64 n, .string d, .bool b].toArray 74)) := by kernel_rfl
theorem build_ev (W : World) (n d b : Int) : (Instr.buildSlice 43 1 #[(0, .agg #[.int .i64 n, .int .i64 d, .int .i64 b])]).run Tryz.prog W = .ok (.slice (some ⟨W.heap.size, 0, none⟩) 1 1) (W.alloc (Obj.cells [.int .i64 n, .int .i64 d, .int .i64 b].toArray 83)) := by kernel_rfl
theorem build_str (W : World) (d : ByteArray) : (Instr.buildSlice 33 1 #[(0, .string d)]).run Tryz.prog W = .ok (.slice (some ⟨W.heap.size, 0, none⟩) 1 1) (W.alloc (Obj.cells [.string d].toArray 9)) := by kernel_rfl
/-- Where a row that was appended to lies now. -/
def Mv (w : World) (v v' : Value) : Prop := ∀ k, v'.ownBlock = some k → v.ownBlock = some k ∨ w.heap.size ≤ k
set_option maxHeartbeats 4000000 in
set_option maxRecDepth 100000 in
theorem qupush_any (id : Int) (d : ByteArray) (mk : Bool) (g off : Nat) (cs : List Value) (T0 : TypeId) (v : Value) (n : Nat) (xs : List Value) (w : World) (hn : n ≤ 1000000) (hB : Blk w g cs T0) (hv : cs[off]? = some v) (hQ : QRow w 0 74 3 v n xs) (hg : v.ownBlock ≠ some g) :
    Calls Tryz.prog 58 #[.pointer (some ⟨g, off, none⟩), .agg #[.int .i64 id, .string d, .bool mk]] w fun e w' => e = .returned (.tuple #[]) ∧ ∃ v', Keep (g :: v.ownBlock.toList) w w' ∧ Blk w' g (cs.set off v') T0 ∧ QRow w' 0 74 3 v' (n + 1) (xs ++ [.int .i64 id, .string d, .bool mk]) ∧ Mv w v v' := by
  obtain ⟨i0, hi, hz0, hz1, hz2⟩ := info_parts info_unit
  have HQ := Lib.hid hQ; have HG := Lib.hid hg; have HB := Lib.hid hB; have HV := Lib.hid hv; have HI := Lib.hid hi; have HZ0 := Lib.hid hz0; have HZ1 := Lib.hid hz1; have HZ2 := Lib.hid hz2
  have hA : Below w.heap.size w (w.alloc (Obj.cells #[.int .i64 id, .string d, .bool mk] 74)) := (Below.refl w.heap.size w).alloc (Nat.le_refl _) _
  have HX := Lib.hid (Blk.new w [.int .i64 id, .string d, .bool mk] 74)
  have HL := Lib.hid hA
  clear hQ hg hB hv hi hz0 hz1 hz2 hA
  go_enter Tryz.func58, Tryz.ntmps58
  go_upto_region 1 with fail
  refine region_end (fun W => W.cell? ⟨g, off, none⟩ = some v ∧ Blk W w.heap.size [.int .i64 id, .string d, .bool mk] 74 ∧ Keep v.ownBlock.toList w W) 10 (by kernel_rfl) ⟨?_, HX.out.drew, ((Keep.refl _ w).below HL.out (Nat.le_refl _)).drew⟩ (fun hInv hHeld => ?_)
  · exact ((HB.out.below HL.out HB.out.lt).cell off).trans HV.out
  have hK0 := hHeld.2.2
  have x0 : ∀ W, Blk W w.heap.size [.int .i64 id, .string d, .bool mk] 74 → (W.cell? ⟨w.heap.size, 0, none⟩ = some (.int .i64 id) ∧ W.cell? ⟨w.heap.size, 1, none⟩ = some (.string d) ∧ W.cell? ⟨w.heap.size, 2, none⟩ = some (.bool mk)) := fun W h => ⟨h.cell 0, h.cell 1, h.cell 2⟩
  refine WpEnd.take (i := 0) (some 4) (v := ?_) rfl rfl (by kernel_rfl) (by kernel_rfl) (by kernel_rfl) (fun _ _ _ h => h) (by kernel_rfl) hInv (by assumption) (by rfl) ?_ (fun hInv => ?_)
  rotate_left
  · (intro w hSw; (try dsimp only at hSw); go_simp; (try with_reducible rfl))
  simp only [Act.put, List.setIfInBounds_toArray, List.set_cons_zero, List.set_cons_succ]
  refine WpEnd.take (i := 1) (some 5) (v := ?_) rfl rfl (by kernel_rfl) (by kernel_rfl) (by kernel_rfl) (fun _ _ _ h => h) (by kernel_rfl) hInv (by assumption) (by rfl) ?_ (fun hInv => ?_)
  rotate_left
  · (intro w hSw; (try dsimp only at hSw); go_simp; (try with_reducible rfl))
  simp only [Act.put, List.setIfInBounds_toArray, List.set_cons_zero, List.set_cons_succ]
  refine WpEnd.take (i := 2) (some 6) (v := ?_) rfl rfl (by kernel_rfl) (by kernel_rfl) (by kernel_rfl) (fun _ _ _ h => h) (by kernel_rfl) hInv (by assumption) (by rfl) ?_ (fun hInv => ?_)
  rotate_left
  · (intro w hSw; (try dsimp only at hSw); go_simp; (try with_reducible rfl))
  simp only [Act.put, List.setIfInBounds_toArray, List.set_cons_zero, List.set_cons_succ]
  refine WpEnd.take (i := 3) (some 7) (v := ?_) rfl rfl (by kernel_rfl) (by kernel_rfl) (by kernel_rfl) (fun _ _ _ h => h) (by kernel_rfl) hInv (by assumption) (by rfl) ?_ (fun hInv => ?_)
  rotate_left
  · (intro w hSw; (try dsimp only at hSw); go_simp; (try with_reducible rfl))
  simp only [Act.put, List.setIfInBounds_toArray, List.set_cons_zero, List.set_cons_succ]
  refine WpEnd.take (i := 4) (some 8) (v := ?_) rfl rfl (by kernel_rfl) (by kernel_rfl) (by kernel_rfl) (fun _ _ _ h => h) (by kernel_rfl) hInv (by assumption) (by rfl) ?_ (fun hInv => ?_)
  rotate_left
  · (intro w hSw; (try dsimp only at hSw); go_simp; (try with_reducible rfl))
  simp only [Act.put, List.setIfInBounds_toArray, List.set_cons_zero, List.set_cons_succ]
  refine WpEnd.take (i := 5) (some 9) (v := ?_) rfl rfl (by kernel_rfl) (by kernel_rfl) (by kernel_rfl) (fun _ _ _ h => h) (by kernel_rfl) hInv (by assumption) (by rfl) ?_ (fun hInv => ?_)
  rotate_left
  · (intro w hSw; have hSx := x0 _ hSw.2.1; go_simp; (try with_reducible rfl))
  simp only [Act.put, List.setIfInBounds_toArray, List.set_cons_zero, List.set_cons_succ]
  refine WpEnd.ready (rs := [6]) (by kernel_rfl) (by simp) ?_
  refine EachEnd.cons (some 10) rfl rfl (by decide) (by kernel_rfl) hInv (fun K hKK hKB => ?_) EachEnd.nil
  refine step_build_1 66 74 [.int .i64 id, .string d, .bool mk] rfl _ rfl _ rfl (build_unit _ _ _ _) ?_
  have hK1 := hK0.alloc (Obj.cells [.int .i64 id, .string d, .bool mk].toArray 74)
  have hx1 := hHeld.2.1.alloc (Obj.cells [.int .i64 id, .string d, .bool mk].toArray 74)
  have hq1 : QRow ((w.alloc (Obj.cells #[.int .i64 id, .string d, .bool mk] 74)).drew.alloc (Obj.cells [.int .i64 id, .string d, .bool mk].toArray 74)) 0 74 3 v n xs := q_keep HQ.out (Keep.below (Keep.refl [] w) (((HL.out).drew).alloc (by simp) (Obj.cells [.int .i64 id, .string d, .bool mk].toArray 74)) (Nat.le_refl _)) (fun _ _ => by simp)
  have hc1 : ((w.alloc (Obj.cells #[.int .i64 id, .string d, .bool mk] 74)).drew.alloc (Obj.cells [.int .i64 id, .string d, .bool mk].toArray 74)).cell? ⟨g, off, none⟩ = some v := (((HB.out.below HL.out HB.out.lt).drew.alloc (Obj.cells [.int .i64 id, .string d, .bool mk].toArray 74)).cell off).trans HV.out
  have hy1 : Blk ((w.alloc (Obj.cells #[.int .i64 id, .string d, .bool mk] 74)).drew.alloc (Obj.cells [.int .i64 id, .string d, .bool mk].toArray 74)) (w.heap.size + 1) [.int .i64 id, .string d, .bool mk] 74 := Blk.new_at _ [.int .i64 id, .string d, .bool mk] 74 _ (by simp)
  have hz1 : (w.alloc (Obj.cells #[.int .i64 id, .string d, .bool mk] 74)).drew.heap.size = w.heap.size + 1 := by simp
  rw [hz1]
  obtain ⟨W, hW⟩ : ∃ W, W = (w.alloc (Obj.cells #[.int .i64 id, .string d, .bool mk] 74)).drew.alloc (Obj.cells [.int .i64 id, .string d, .bool mk].toArray 74) := ⟨_, rfl⟩
  rw [← hW] at hK1 hx1 hq1 hc1 hy1 ⊢
  refine hKK.out _ _ ⟨hc1, hx1, hK1⟩ (fun hInv hHeld => ?_)
  clear hKK hKB K hW hK0
  simp only [Act.put, List.setIfInBounds_toArray, List.set_cons_zero, List.set_cons_succ]
  refine WpEnd.ready (rs := [7]) (by kernel_rfl) (by simp) ?_
  refine EachEnd.cons (some 11) rfl rfl (by decide) (by kernel_rfl) hInv (fun K hKK hKB => ?_) EachEnd.nil
  refine step_append_q 66 74 3 32 i0 (.agg #[.int .i64 0, .string ⟨#[]⟩, .bool false]) rfl _ _ rfl Tryz.underlying66 HI.out HZ0.out rfl HZ1.out HZ2.out 0 v n xs rfl hq1 (w.heap.size + 1) 0 1 1 [.int .i64 id, .string d, .bool mk] rfl rfl (by intro u hu; simp at hu; rcases hu with rfl | rfl | rfl <;> rfl) (fun j u hj => by rw [Nat.zero_add]; exact (hy1.cell j).trans hj) (by omega) (by unfold maxLen; omega) (Nat.zero_le _) ?_
  intro v' W2 hq2 hk2 hm2
  have hg2 : g ∉ v.ownBlock.toList := by
    intro h
    have := HG.out
    cases hv : v.ownBlock with
    | none => rw [hv] at h; simp at h
    | some k => rw [hv] at h this; simp at h; exact this (by rw [h])
  have hbw := HB.out.lt
  have hlw : ∀ k, v.ownBlock = some k → k < w.heap.size := fun k hk => (q_lt HQ.out k hk).2
  have hlist : ∀ k, k ∈ v.ownBlock.toList → k < w.heap.size := by
    intro k hk
    exact hlw k (by simpa using hk)
  have hK2 := hK1.trans hk2
  have hB2 : Blk W2 g cs T0 := HB.out.keep hK2 hg2
  have hx2 : Blk W2 w.heap.size [.int .i64 id, .string d, .bool mk] 74 := hx1.keep hk2 (fun h => by have := hlist _ h; omega)
  have hwW : w.heap.size ≤ W.heap.size := hK1.size
  refine hKK.out _ _ ⟨(hB2.cell off).trans HV.out, hx2, hK2⟩ (fun hInv hHeld => ?_)
  clear hKK hKB K
  simp only [Act.put, List.setIfInBounds_toArray, List.set_cons_zero, List.set_cons_succ]
  refine WpEnd.take (i := 8) (some 12) (v := ?_) rfl rfl (by kernel_rfl) (by kernel_rfl) (by kernel_rfl) (fun _ _ _ h => h) (by kernel_rfl) hInv (by assumption) (by rfl) ?_ (fun hInv => ?_)
  rotate_left
  · (intro w hSw; (try dsimp only at hSw); go_simp; (try with_reducible rfl))
  simp only [Act.put, List.setIfInBounds_toArray, List.set_cons_zero, List.set_cons_succ]
  refine WpEnd.take (i := 9) (some 13) (v := ?_) rfl rfl (by kernel_rfl) (by kernel_rfl) (by kernel_rfl) (fun _ _ _ h => h) (by kernel_rfl) hInv (by assumption) (by rfl) ?_ (fun hInv => ?_)
  rotate_left
  · (intro w hSw; (try dsimp only at hSw); go_simp; (try with_reducible rfl))
  simp only [Act.put, List.setIfInBounds_toArray, List.set_cons_zero, List.set_cons_succ]
  refine WpEnd.ready (rs := [10]) (by kernel_rfl) (by simp) ?_
  refine EachEnd.last rfl (fun K hKK => ?_)
  have c0 := (hB2.cell off).trans HV.out
  have f0 := hB2.free off
  have HM := Lib.hid hm2; have HQ2 := Lib.hid hq2
  clear hm2 hq2
  obtain ⟨av, nv, cv, hav⟩ : ∃ a n c, v' = .slice a n c := by
    obtain ⟨a, c, h, _⟩ := q_form HQ2.out
    exact ⟨a, _, c, h⟩
  subst hav
  go_simp
  refine hKK.out _ _ ?_
  clear hKK K
  refine WpEnd.done (by kernel_rfl) ?_ _
  refine post_any (fun W' => W' = W2.setCell ⟨g, off, none⟩ (.slice av nv cv)) rfl ?_
  rintro W3 hW3
  have HW3 := Lib.hid hW3; clear hW3
  have HK2 := Lib.hid hK2; have HB2 := Lib.hid hB2
  clear hK2 hB2 hHeld c0 f0 hk2 hK1 hy1 hx1 hq1 hx2 hc1
  go_wp2_with fail
  go_end0
  refine ⟨rfl, .slice av nv cv, ?_, ?_, ?_, ?_⟩
  · rw [HW3.out]; exact (HK2.out.mono (fun i hi => List.mem_cons_of_mem _ hi)).setCell (p := ⟨g, off, none⟩) (.inl (by simp)) _
  · rw [HW3.out]; exact HB2.out.set off _
  · rw [HW3.out]
    refine q_set HQ2.out ?_ _
    intro h
    rcases HM.out with e | e
    · rw [h] at e; exact HG.out e.symm
    · rw [h] at e; injection e with e; (try simp at e); omega
  · intro k hk
    rcases HM.out with e | e
    · left; rw [← e]; exact hk
    · right; rw [e] at hk; injection hk with hk; omega
set_option maxHeartbeats 4000000 in
set_option maxRecDepth 100000 in
theorem report_any (k id y : Int) (g off : Nat) (cs : List Value) (T0 : TypeId) (v : Value) (n : Nat) (xs : List Value) (w : World) (hn : n ≤ 1000000) (hB : Blk w g cs T0) (hv : cs[off]? = some v) (hQ : QRow w 0 83 3 v n xs) (hg : v.ownBlock ≠ some g) :
    Calls Tryz.prog 52 #[.pointer (some ⟨g, off, none⟩), .agg #[.int .i64 k, .int .i64 id, .int .i64 y]] w fun e w' => e = .returned (.tuple #[]) ∧ ∃ v', Keep (g :: v.ownBlock.toList) w w' ∧ Blk w' g (cs.set off v') T0 ∧ QRow w' 0 83 3 v' (n + 1) (xs ++ [.int .i64 k, .int .i64 id, .int .i64 y]) ∧ Mv w v v' := by
  obtain ⟨i0, hi, hz0, hz1, hz2⟩ := info_parts info_ev
  have HQ := Lib.hid hQ; have HG := Lib.hid hg; have HB := Lib.hid hB; have HV := Lib.hid hv; have HI := Lib.hid hi; have HZ0 := Lib.hid hz0; have HZ1 := Lib.hid hz1; have HZ2 := Lib.hid hz2
  have hA : Below w.heap.size w (w.alloc (Obj.cells #[.int .i64 k, .int .i64 id, .int .i64 y] 83)) := (Below.refl w.heap.size w).alloc (Nat.le_refl _) _
  have HX := Lib.hid (Blk.new w [.int .i64 k, .int .i64 id, .int .i64 y] 83)
  have HL := Lib.hid hA
  clear hQ hg hB hv hi hz0 hz1 hz2 hA
  go_enter Tryz.func52, Tryz.ntmps52
  go_upto_region 1 with fail
  refine region_end (fun W => W.cell? ⟨g, off, none⟩ = some v ∧ Blk W w.heap.size [.int .i64 k, .int .i64 id, .int .i64 y] 83 ∧ Keep v.ownBlock.toList w W) 10 (by kernel_rfl) ⟨?_, HX.out.drew, ((Keep.refl _ w).below HL.out (Nat.le_refl _)).drew⟩ (fun hInv hHeld => ?_)
  · exact ((HB.out.below HL.out HB.out.lt).cell off).trans HV.out
  have hK0 := hHeld.2.2
  have x0 : ∀ W, Blk W w.heap.size [.int .i64 k, .int .i64 id, .int .i64 y] 83 → (W.cell? ⟨w.heap.size, 0, none⟩ = some (.int .i64 k) ∧ W.cell? ⟨w.heap.size, 1, none⟩ = some (.int .i64 id) ∧ W.cell? ⟨w.heap.size, 2, none⟩ = some (.int .i64 y)) := fun W h => ⟨h.cell 0, h.cell 1, h.cell 2⟩
  refine WpEnd.take (i := 0) (some 4) (v := ?_) rfl rfl (by kernel_rfl) (by kernel_rfl) (by kernel_rfl) (fun _ _ _ h => h) (by kernel_rfl) hInv (by assumption) (by rfl) ?_ (fun hInv => ?_)
  rotate_left
  · (intro w hSw; (try dsimp only at hSw); go_simp; (try with_reducible rfl))
  simp only [Act.put, List.setIfInBounds_toArray, List.set_cons_zero, List.set_cons_succ]
  refine WpEnd.take (i := 1) (some 5) (v := ?_) rfl rfl (by kernel_rfl) (by kernel_rfl) (by kernel_rfl) (fun _ _ _ h => h) (by kernel_rfl) hInv (by assumption) (by rfl) ?_ (fun hInv => ?_)
  rotate_left
  · (intro w hSw; (try dsimp only at hSw); go_simp; (try with_reducible rfl))
  simp only [Act.put, List.setIfInBounds_toArray, List.set_cons_zero, List.set_cons_succ]
  refine WpEnd.take (i := 2) (some 6) (v := ?_) rfl rfl (by kernel_rfl) (by kernel_rfl) (by kernel_rfl) (fun _ _ _ h => h) (by kernel_rfl) hInv (by assumption) (by rfl) ?_ (fun hInv => ?_)
  rotate_left
  · (intro w hSw; (try dsimp only at hSw); go_simp; (try with_reducible rfl))
  simp only [Act.put, List.setIfInBounds_toArray, List.set_cons_zero, List.set_cons_succ]
  refine WpEnd.take (i := 3) (some 7) (v := ?_) rfl rfl (by kernel_rfl) (by kernel_rfl) (by kernel_rfl) (fun _ _ _ h => h) (by kernel_rfl) hInv (by assumption) (by rfl) ?_ (fun hInv => ?_)
  rotate_left
  · (intro w hSw; (try dsimp only at hSw); go_simp; (try with_reducible rfl))
  simp only [Act.put, List.setIfInBounds_toArray, List.set_cons_zero, List.set_cons_succ]
  refine WpEnd.take (i := 4) (some 8) (v := ?_) rfl rfl (by kernel_rfl) (by kernel_rfl) (by kernel_rfl) (fun _ _ _ h => h) (by kernel_rfl) hInv (by assumption) (by rfl) ?_ (fun hInv => ?_)
  rotate_left
  · (intro w hSw; (try dsimp only at hSw); go_simp; (try with_reducible rfl))
  simp only [Act.put, List.setIfInBounds_toArray, List.set_cons_zero, List.set_cons_succ]
  refine WpEnd.take (i := 5) (some 9) (v := ?_) rfl rfl (by kernel_rfl) (by kernel_rfl) (by kernel_rfl) (fun _ _ _ h => h) (by kernel_rfl) hInv (by assumption) (by rfl) ?_ (fun hInv => ?_)
  rotate_left
  · (intro w hSw; have hSx := x0 _ hSw.2.1; go_simp; (try with_reducible rfl))
  simp only [Act.put, List.setIfInBounds_toArray, List.set_cons_zero, List.set_cons_succ]
  refine WpEnd.ready (rs := [6]) (by kernel_rfl) (by simp) ?_
  refine EachEnd.cons (some 10) rfl rfl (by decide) (by kernel_rfl) hInv (fun K hKK hKB => ?_) EachEnd.nil
  refine step_build_1 43 83 [.int .i64 k, .int .i64 id, .int .i64 y] rfl _ rfl _ rfl (build_ev _ _ _ _) ?_
  have hK1 := hK0.alloc (Obj.cells [.int .i64 k, .int .i64 id, .int .i64 y].toArray 83)
  have hx1 := hHeld.2.1.alloc (Obj.cells [.int .i64 k, .int .i64 id, .int .i64 y].toArray 83)
  have hq1 : QRow ((w.alloc (Obj.cells #[.int .i64 k, .int .i64 id, .int .i64 y] 83)).drew.alloc (Obj.cells [.int .i64 k, .int .i64 id, .int .i64 y].toArray 83)) 0 83 3 v n xs := q_keep HQ.out (Keep.below (Keep.refl [] w) (((HL.out).drew).alloc (by simp) (Obj.cells [.int .i64 k, .int .i64 id, .int .i64 y].toArray 83)) (Nat.le_refl _)) (fun _ _ => by simp)
  have hc1 : ((w.alloc (Obj.cells #[.int .i64 k, .int .i64 id, .int .i64 y] 83)).drew.alloc (Obj.cells [.int .i64 k, .int .i64 id, .int .i64 y].toArray 83)).cell? ⟨g, off, none⟩ = some v := (((HB.out.below HL.out HB.out.lt).drew.alloc (Obj.cells [.int .i64 k, .int .i64 id, .int .i64 y].toArray 83)).cell off).trans HV.out
  have hy1 : Blk ((w.alloc (Obj.cells #[.int .i64 k, .int .i64 id, .int .i64 y] 83)).drew.alloc (Obj.cells [.int .i64 k, .int .i64 id, .int .i64 y].toArray 83)) (w.heap.size + 1) [.int .i64 k, .int .i64 id, .int .i64 y] 83 := Blk.new_at _ [.int .i64 k, .int .i64 id, .int .i64 y] 83 _ (by simp)
  have hz1 : (w.alloc (Obj.cells #[.int .i64 k, .int .i64 id, .int .i64 y] 83)).drew.heap.size = w.heap.size + 1 := by simp
  rw [hz1]
  obtain ⟨W, hW⟩ : ∃ W, W = (w.alloc (Obj.cells #[.int .i64 k, .int .i64 id, .int .i64 y] 83)).drew.alloc (Obj.cells [.int .i64 k, .int .i64 id, .int .i64 y].toArray 83) := ⟨_, rfl⟩
  rw [← hW] at hK1 hx1 hq1 hc1 hy1 ⊢
  refine hKK.out _ _ ⟨hc1, hx1, hK1⟩ (fun hInv hHeld => ?_)
  clear hKK hKB K hW hK0
  simp only [Act.put, List.setIfInBounds_toArray, List.set_cons_zero, List.set_cons_succ]
  refine WpEnd.ready (rs := [7]) (by kernel_rfl) (by simp) ?_
  refine EachEnd.cons (some 11) rfl rfl (by decide) (by kernel_rfl) hInv (fun K hKK hKB => ?_) EachEnd.nil
  refine step_append_q 43 83 3 24 i0 (.agg #[.int .i64 0, .int .i64 0, .int .i64 0]) rfl _ _ rfl Tryz.underlying43 HI.out HZ0.out rfl HZ1.out HZ2.out 0 v n xs rfl hq1 (w.heap.size + 1) 0 1 1 [.int .i64 k, .int .i64 id, .int .i64 y] rfl rfl (by intro u hu; simp at hu; rcases hu with rfl | rfl | rfl <;> rfl) (fun j u hj => by rw [Nat.zero_add]; exact (hy1.cell j).trans hj) (by omega) (by unfold maxLen; omega) (Nat.zero_le _) ?_
  intro v' W2 hq2 hk2 hm2
  have hg2 : g ∉ v.ownBlock.toList := by
    intro h
    have := HG.out
    cases hv : v.ownBlock with
    | none => rw [hv] at h; simp at h
    | some k => rw [hv] at h this; simp at h; exact this (by rw [h])
  have hbw := HB.out.lt
  have hlw : ∀ k, v.ownBlock = some k → k < w.heap.size := fun k hk => (q_lt HQ.out k hk).2
  have hlist : ∀ k, k ∈ v.ownBlock.toList → k < w.heap.size := by
    intro k hk
    exact hlw k (by simpa using hk)
  have hK2 := hK1.trans hk2
  have hB2 : Blk W2 g cs T0 := HB.out.keep hK2 hg2
  have hx2 : Blk W2 w.heap.size [.int .i64 k, .int .i64 id, .int .i64 y] 83 := hx1.keep hk2 (fun h => by have := hlist _ h; omega)
  have hwW : w.heap.size ≤ W.heap.size := hK1.size
  refine hKK.out _ _ ⟨(hB2.cell off).trans HV.out, hx2, hK2⟩ (fun hInv hHeld => ?_)
  clear hKK hKB K
  simp only [Act.put, List.setIfInBounds_toArray, List.set_cons_zero, List.set_cons_succ]
  refine WpEnd.take (i := 8) (some 12) (v := ?_) rfl rfl (by kernel_rfl) (by kernel_rfl) (by kernel_rfl) (fun _ _ _ h => h) (by kernel_rfl) hInv (by assumption) (by rfl) ?_ (fun hInv => ?_)
  rotate_left
  · (intro w hSw; (try dsimp only at hSw); go_simp; (try with_reducible rfl))
  simp only [Act.put, List.setIfInBounds_toArray, List.set_cons_zero, List.set_cons_succ]
  refine WpEnd.take (i := 9) (some 13) (v := ?_) rfl rfl (by kernel_rfl) (by kernel_rfl) (by kernel_rfl) (fun _ _ _ h => h) (by kernel_rfl) hInv (by assumption) (by rfl) ?_ (fun hInv => ?_)
  rotate_left
  · (intro w hSw; (try dsimp only at hSw); go_simp; (try with_reducible rfl))
  simp only [Act.put, List.setIfInBounds_toArray, List.set_cons_zero, List.set_cons_succ]
  refine WpEnd.ready (rs := [10]) (by kernel_rfl) (by simp) ?_
  refine EachEnd.last rfl (fun K hKK => ?_)
  have c0 := (hB2.cell off).trans HV.out
  have f0 := hB2.free off
  have HM := Lib.hid hm2; have HQ2 := Lib.hid hq2
  clear hm2 hq2
  obtain ⟨av, nv, cv, hav⟩ : ∃ a n c, v' = .slice a n c := by
    obtain ⟨a, c, h, _⟩ := q_form HQ2.out
    exact ⟨a, _, c, h⟩
  subst hav
  go_simp
  refine hKK.out _ _ ?_
  clear hKK K
  refine WpEnd.done (by kernel_rfl) ?_ _
  refine post_any (fun W' => W' = W2.setCell ⟨g, off, none⟩ (.slice av nv cv)) rfl ?_
  rintro W3 hW3
  have HW3 := Lib.hid hW3; clear hW3
  have HK2 := Lib.hid hK2; have HB2 := Lib.hid hB2
  clear hK2 hB2 hHeld c0 f0 hk2 hK1 hy1 hx1 hq1 hx2 hc1
  go_wp2_with fail
  go_end0
  refine ⟨rfl, .slice av nv cv, ?_, ?_, ?_, ?_⟩
  · rw [HW3.out]; exact (HK2.out.mono (fun i hi => List.mem_cons_of_mem _ hi)).setCell (p := ⟨g, off, none⟩) (.inl (by simp)) _
  · rw [HW3.out]; exact HB2.out.set off _
  · rw [HW3.out]
    refine q_set HQ2.out ?_ _
    intro h
    rcases HM.out with e | e
    · rw [h] at e; exact HG.out e.symm
    · rw [h] at e; injection e with e; (try simp at e); omega
  · intro k hk
    rcases HM.out with e | e
    · left; rw [← e]; exact hk
    · right; rw [e] at hk; injection hk with hk; omega
end
section
open Go.RowKit
section
variable {P : Program} {fn : Func} {R : Ending → World → Prop} {a : Act} {w : World}
theorem ret_cell_tmp {p u : Tmp} {ty : TypeId} (h : fn.results = #[.cell p ty, .tmp u]) (g : Nat) (t : TypeId) (cs : List Value) (hp : a.tmps.getD p undef = .pointer (some ⟨g, 0, none⟩)) (hB : Blk w g cs t)
    {d : TypeDesc} (hu : P.underlying ty = some d) (hd : (match d with | .struct _ | .array _ _ => true | _ => false) = true) (hi : (P.info? ty).map (·.size) = some cs.length) (hdf : a.defers = [])
    (hR : R (.returned (.tuple #[.agg cs.toArray, a.tmps.getD u undef])) w) : bodyPost P fn R .ret a w := by
  refine bodyPost_ret (v := .tuple #[.agg cs.toArray, a.tmps.getD u undef]) ?_ hdf hR
  rw [results_cell_tmp h, hp]
  simp [asAddr, run_loadVar_row w g t ty cs.toArray (0, 0) d hB hu hd (by simpa using hi)]
theorem ret_cell {p : Tmp} {ty : TypeId} (h : fn.results = #[.cell p ty]) (g : Nat) (t : TypeId) (cs : List Value) (hp : a.tmps.getD p undef = .pointer (some ⟨g, 0, none⟩)) (hB : Blk w g cs t)
    {d : TypeDesc} (hu : P.underlying ty = some d) (hd : (match d with | .struct _ | .array _ _ => true | _ => false) = true) (hi : (P.info? ty).map (·.size) = some cs.length) (hdf : a.defers = [])
    (hR : R (.returned (.agg cs.toArray)) w) : bodyPost P fn R .ret a w := by
  refine bodyPost_ret (v := .agg cs.toArray) ?_ hdf hR
  exact results_cell_row h _ w g t cs.toArray (0, 0) d hp hB hu hd (by simpa using hi)
theorem ret_cell_tmp2 {p u v : Tmp} {ty : TypeId} (h : fn.results = #[.cell p ty, .tmp u, .tmp v]) (g : Nat) (t : TypeId) (cs : List Value) (hp : a.tmps.getD p undef = .pointer (some ⟨g, 0, none⟩)) (hB : Blk w g cs t)
    {d : TypeDesc} (hu : P.underlying ty = some d) (hd : (match d with | .struct _ | .array _ _ => true | _ => false) = true) (hi : (P.info? ty).map (·.size) = some cs.length) (hdf : a.defers = [])
    (hR : R (.returned (.tuple #[.agg cs.toArray, a.tmps.getD u undef, a.tmps.getD v undef])) w) : bodyPost P fn R .ret a w := by
  refine bodyPost_ret (v := .tuple #[.agg cs.toArray, a.tmps.getD u undef, a.tmps.getD v undef]) ?_ hdf hR
  have hl := run_loadVar_row (P := P) w g t ty cs.toArray (0, 0) d hB hu hd (by simpa using hi)
  simp only [results, h]
  simp [Sem.run_bind, Result.andThen, hp, asAddr, hl]
  simp only [Array.getD_eq_getD_getElem?] at hp
  simp [hp, asAddr, hl]
end
end
end Go.Proofs.YtgopighmifpefaaGreatDoor
