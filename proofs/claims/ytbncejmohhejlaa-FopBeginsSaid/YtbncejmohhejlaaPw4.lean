/- What is proved here: how the two automata and what is under way between them lie in memory. No condition. -/
import Derived.Test.YtbncejmohhejlaaPa5
set_option linter.unusedVariables false
set_option linter.unusedSimpArgs false
namespace Go.Proofs.Ytbncejmohhejlaa
open Go.RowKit
section
def tcRow (l : List Tc) : List Value := l.flatMap Tc.cells
def u32Row (l : List Nat) : List Value := l.map fun (n : Nat) => Value.int .u32 (n : Int)
theorem tcRow_len : ∀ l : List Tc, (tcRow l).length = l.length * 6
  | [] => rfl
  | x :: l => by
    have := tcRow_len l
    simp only [tcRow, List.flatMap_cons, List.length_append, List.length_cons] at this ⊢
    simp only [Tc.cells, List.length_cons, List.length_nil]
    omega
theorem tcRow_one (l : List Tc) : ∀ u ∈ tcRow l, u.oneCell' = true := by
  intro u hu
  obtain ⟨e, _, he⟩ := List.mem_flatMap.1 hu
  simp only [Tc.cells, List.mem_cons, List.not_mem_nil, or_false] at he
  rcases he with rfl | rfl | rfl | rfl | rfl | rfl <;> rfl
theorem u32Row_one (l : List Nat) : ∀ u ∈ u32Row l, u.oneCell' = true := by
  intro u hu
  obtain ⟨e, _, rfl⟩ := List.mem_map.1 hu
  rfl
/-- A block as a value, to speak of it as of a row. -/
def bv (g : Nat) : Value := .slice (some ⟨g, 0, none⟩) 0 0
def blocks (l : List Value) : List Nat := l.flatMap fun v => v.ownBlock.toList
theorem mem_blocks {l : List Value} {k : Nat} : k ∈ blocks l ↔ ∃ v ∈ l, v.ownBlock = some k := by
  simp [blocks, List.mem_flatMap, Option.mem_toList]
def pairCells (gf gg : Nat) (uv dv nv av : Value) (p : Pr) : List Value := [.pointer (some ⟨gf, 0, none⟩), .pointer (some ⟨gg, 0, none⟩), uv, dv, nv, av, .int .i64 p.acked, .int .i64 p.alert]
/-- The pair p, made since w, at block P. -/
structure PairAt (w W : World) (P gf gg : Nat) (uv dv nv av : Value) (p : Pr) : Prop where
  blk : Blk W P (pairCells gf gg uv dv nv av p) 78
  fop : Fx w W gf (blocks [bv P, bv gg, uv, dv, nv, av]) p.s
  farm : Blk W gg p.f.cells 112
  up : QRow W 0 31 6 uv p.up.length (tcRow p.up)
  down : QRow W 0 38 1 dv p.down.length (u32Row p.down)
  units : QRow W 0 9 1 nv p.units.length (stRow p.units)
  acc : QRow W 0 9 1 av p.acc.length (stRow p.acc)
  apart : [bv P, bv gg, uv, dv, nv, av].Pairwise Far
theorem Fx.lt {w W : World} {g : Nat} {R : List Nat} {s : Fs} (h : Fx w W g R s) : ∀ r ∈ R, w.heap.size ≤ r ∧ r < W.heap.size := by
  obtain ⟨_, _, _, h3⟩ := h
  exact fun r hr => ⟨(h3 r hr).1, (h3 r hr).2.1⟩
theorem far_set {l : List Value} (h : l.Pairwise Far) : ∀ (i : Nat) (v' : Value), (∀ u ∈ l, ∀ j, l[j]? = some u → j ≠ i → Far u v' ∧ Far v' u) → (l.set i v').Pairwise Far := by
  induction l with
  | nil => intro i v' _; simp
  | cons a l ih =>
    intro i v' hv
    have h1 := List.pairwise_cons.1 h
    cases i with
    | zero =>
      rw [List.set_cons_zero]
      refine List.pairwise_cons.2 ⟨fun u hu => ?_, h1.2⟩
      obtain ⟨j, hj⟩ := List.getElem?_of_mem hu
      exact (hv u (List.mem_cons_of_mem _ hu) (j + 1) (by simpa using hj) (by omega)).2
    | succ i =>
      rw [List.set_cons_succ]
      refine List.pairwise_cons.2 ⟨fun u hu => ?_, ih h1.2 i v' fun u hu j hj hn => hv u (List.mem_cons_of_mem _ hu) (j + 1) (by simpa using hj) (by omega)⟩
      rcases List.mem_or_eq_of_mem_set hu with hu | rfl
      · exact h1.1 u hu
      · exact (hv a (by simp) 0 rfl (by omega)).1
end
section
theorem Fx.swap {w W W' : World} {g : Nat} {R R' T : List Nat} {s : Fs} (h : Fx w W g R s) (k : Keep T W W') (hT : ∀ i ∈ T, i ∈ R ∨ W.heap.size ≤ i) (hR : ∀ r ∈ R', (r ∈ R ∨ W.heap.size ≤ r) ∧ r < W'.heap.size) : Fx w W' g R' s := by
  have hz := h.size
  obtain ⟨S1, h1, h2, h3⟩ := h
  have hn : ∀ i ∈ S1, i < W.heap.size → i ∉ T := fun i hi hl hm => by
    rcases hT i hm with e | e
    · exact (h3 i e).2.2 hi
    · omega
  refine ⟨S1, ⟨h1.in_.keep k hn, h1.keep.trans_new k (fun i hi => ?_), h1.new⟩, fun i hi => Nat.lt_of_lt_of_le (h2 i hi) k.size, fun r hr => ?_⟩
  · rcases hT i hi with e | e
    · exact .inr (h3 i e).1
    · exact .inr (Nat.le_trans hz e)
  · obtain ⟨hr1, hr2⟩ := hR r hr
    rcases hr1 with e | e
    · exact ⟨(h3 r e).1, hr2, (h3 r e).2.2⟩
    · exact ⟨by omega, hr2, fun hm => by have := h2 r hm; omega⟩
theorem q_at {W W' : World} {base : Nat} {e : TypeId} {sz : Nat} {v : Value} {n : Nat} {xs : List Value} {T : List Nat} (h : QRow W base e sz v n xs) (k : Keep T W W') (hT : ∀ x, v.ownBlock = some x → x ∉ T) : QRow W' base e sz v n xs := q_keep h k hT
section
variable {w W W' : World} {P gf gg : Nat} {uv dv nv av : Value} {p : Pr}
theorem PairAt.below (h : PairAt w W P gf gg uv dv nv av p) (k : Below W.heap.size W W') : PairAt w W' P gf gg uv dv nv av p :=
  ⟨h.blk.below k h.blk.lt, h.fop.below k, h.farm.below k h.farm.lt, q_below h.up k (Nat.le_refl _), q_below h.down k (Nat.le_refl _), q_below h.units k (Nat.le_refl _), q_below h.acc k (Nat.le_refl _), h.apart⟩
theorem in_blocks {l : List Value} {v : Value} {k : Nat} (hv : v ∈ l) (hk : v.ownBlock = some k) : k ∈ blocks l := mem_blocks.2 ⟨v, hv, hk⟩
/-- Behind a call of a method of the automaton on the ground. -/
theorem PairAt.call (h : PairAt w W P gf gg uv dv nv av p) {s' : Fs} (hX : Fx w W' gf (blocks [bv P, bv gg, uv, dv, nv, av]) s') (hR : ∀ r ∈ blocks [bv P, bv gg, uv, dv, nv, av], W'.heap[r]? = W.heap[r]?) : PairAt w W' P gf gg uv dv nv av { p with s := s' } :=
  ⟨h.blk.same (hR P (in_blocks (v := bv P) (by simp) rfl)), hX, h.farm.same (hR gg (in_blocks (v := bv gg) (by simp) rfl)), q_same h.up (fun k hk => hR k (in_blocks (by simp) hk)), q_same h.down (fun k hk => hR k (in_blocks (by simp) hk)), q_same h.units (fun k hk => hR k (in_blocks (by simp) hk)), q_same h.acc (fun k hk => hR k (in_blocks (by simp) hk)), h.apart⟩
theorem PairAt.far (h : PairAt w W P gf gg uv dv nv av p) : (∀ v ∈ [bv gg, uv, dv, nv, av], Far (bv P) v) ∧ (∀ v ∈ [uv, dv, nv, av], Far (bv gg) v) ∧ (∀ v ∈ [dv, nv, av], Far uv v) ∧ (∀ v ∈ [nv, av], Far dv v) ∧ Far nv av := by
  have h0 := h.apart
  obtain ⟨h1, h0⟩ := List.pairwise_cons.1 h0
  obtain ⟨h2, h0⟩ := List.pairwise_cons.1 h0
  obtain ⟨h3, h0⟩ := List.pairwise_cons.1 h0
  obtain ⟨h4, h0⟩ := List.pairwise_cons.1 h0
  obtain ⟨h5, _⟩ := List.pairwise_cons.1 h0
  exact ⟨h1, h2, h3, h4, h5 av (by simp)⟩
theorem far_not {a v : Value} (h : Far a v) {g : Nat} (ha : a.ownBlock = some g) : ∀ x, v.ownBlock = some x → x ∉ [g] := by
  intro x hx hm
  simp at hm
  subst hm
  exact h x ha hx
/-- Behind a call of a method of the automaton on board. -/
theorem PairAt.board (h : PairAt w W P gf gg uv dv nv av p) {f' : Fm} (k : Keep [gg] W W') (hB : Blk W' gg f'.cells 112) : PairAt w W' P gf gg uv dv nv av { p with f := f' } := by
  obtain ⟨h1, h2, -⟩ := h.far
  have hP : P ∉ [gg] := fun hm => by simp at hm; exact h1 (bv gg) (by simp) P rfl (by rw [hm]; rfl)
  exact ⟨h.blk.keep k hP, h.fop.far k (fun i hi => .inl (by simp at hi; subst hi; exact in_blocks (v := bv i) (by simp) rfl)), hB, q_keep h.up k (far_not (h2 uv (by simp)) rfl), q_keep h.down k (far_not (h2 dv (by simp)) rfl), q_keep h.units k (far_not (h2 nv (by simp)) rfl), q_keep h.acc k (far_not (h2 av (by simp)) rfl), h.apart⟩
/-- The numbers have changed. -/
theorem PairAt.nums (h : PairAt w W P gf gg uv dv nv av p) {a : Nat} {l : Int} (k : Keep [P] W W') (hB : Blk W' P (pairCells gf gg uv dv nv av { p with acked := a, alert := l }) 78) : PairAt w W' P gf gg uv dv nv av { p with acked := a, alert := l } := by
  obtain ⟨h1, -⟩ := h.far
  have hP : gg ∉ [P] := fun hm => by simp at hm; exact h1 (bv gg) (by simp) P rfl (by rw [hm]; rfl)
  exact ⟨hB, h.fop.far k (fun i hi => .inl (by simp at hi; subst hi; exact in_blocks (v := bv i) (by simp) rfl)), h.farm.keep k hP, q_keep h.up k (far_not (h1 uv (by simp)) rfl), q_keep h.down k (far_not (h1 dv (by simp)) rfl), q_keep h.units k (far_not (h1 nv (by simp)) rfl), q_keep h.acc k (far_not (h1 av (by simp)) rfl), h.apart⟩
end
end
section
theorem far_get {l : List Value} (h : l.Pairwise Far) (i j : Nat) (u v : Value) (hj : l[j]? = some u) (hi : l[i]? = some v) (hn : j ≠ i) : Far u v := by
  obtain ⟨hj1, rfl⟩ := List.getElem?_eq_some_iff.1 hj
  obtain ⟨hi1, rfl⟩ := List.getElem?_eq_some_iff.1 hi
  rcases Nat.lt_or_gt_of_ne hn with e | e
  · exact List.pairwise_iff_getElem.1 h j i hj1 hi1 e
  · exact (List.pairwise_iff_getElem.1 h i j hi1 hj1 e).symm
theorem pair_set {w W W' : World} {gf P : Nat} {L : List Value} {s : Fs} (h : Fx w W gf (blocks L) s) (hap : L.Pairwise Far) (i : Nat) (v v' : Value) (hv : L[i]? = some v) (k : Keep (P :: v.ownBlock.toList) W W') (hP : P ∈ blocks L) (hm : Mv W v v') (hl : ∀ k, v'.ownBlock = some k → k < W'.heap.size) :
    Fx w W' gf (blocks (L.set i v')) s ∧ (L.set i v').Pairwise Far := by
  have hlt := h.lt
  have hvm : v ∈ L := List.mem_of_getElem? hv
  refine ⟨h.swap k (fun x hx => ?_) (fun r hr => ?_), far_set hap i v' (fun u hu j hj hn => ?_)⟩
  · rcases List.mem_cons.1 hx with e | e
    · subst e; exact .inl hP
    · exact .inl (mem_blocks.2 ⟨v, hvm, by simpa using e⟩)
  · obtain ⟨u, hu, hb⟩ := mem_blocks.1 hr
    rcases List.mem_or_eq_of_mem_set hu with hu | rfl
    · have hm2 := mem_blocks.2 ⟨u, hu, hb⟩
      exact ⟨.inl hm2, Nat.lt_of_lt_of_le (hlt r hm2).2 k.size⟩
    · refine ⟨?_, hl r hb⟩
      rcases hm r hb with e | e
      · exact .inl (mem_blocks.2 ⟨v, hvm, e⟩)
      · exact .inr e
  · have hf := far_get hap i j u v hj hv hn
    have hul : ∀ k, u.ownBlock = some k → k < W.heap.size := fun k hk => (hlt k (mem_blocks.2 ⟨u, hu, hk⟩)).2
    exact ⟨mv_ne hf hm hul, mv_ne' hf.symm hm hul⟩
theorem row_far {a v : Value} {P : Nat} (h1 : Far (bv P) a) (h2 : Far v a) : ∀ x, a.ownBlock = some x → x ∉ P :: v.ownBlock.toList := by
  intro x hx hm
  rcases List.mem_cons.1 hm with e | e
  · subst e; exact h1 x rfl hx
  · exact h2 x (by simpa using e) hx
section
variable {w W W' : World} {P gf gg : Nat} {uv dv nv av v' : Value} {p : Pr}
theorem PairAt.hP : P ∈ blocks [bv P, bv gg, uv, dv, nv, av] := in_blocks (v := bv P) (by simp) rfl
theorem PairAt.rowUp (h : PairAt w W P gf gg uv dv nv av p) {l : List Tc} (k : Keep (P :: uv.ownBlock.toList) W W') (hm : Mv W uv v') (hQ : QRow W' 0 31 6 v' l.length (tcRow l)) (hB : Blk W' P (pairCells gf gg v' dv nv av { p with up := l }) 78) : PairAt w W' P gf gg v' dv nv av { p with up := l } := by
  obtain ⟨h1, h2, h3, h4, h5⟩ := h.far
  obtain ⟨hX, hA⟩ := pair_set h.fop h.apart 2 uv v' rfl k PairAt.hP hm (fun x hx => (q_lt hQ x hx).2)
  have hg : gg ∉ P :: uv.ownBlock.toList := row_far (a := bv gg) (h1 _ (by simp)) (h2 uv (by simp)).symm gg rfl
  exact ⟨hB, hX, h.farm.keep k hg, hQ, q_keep h.down k (row_far (h1 _ (by simp)) (h3 _ (by simp))), q_keep h.units k (row_far (h1 _ (by simp)) (h3 _ (by simp))), q_keep h.acc k (row_far (h1 _ (by simp)) (h3 _ (by simp))), hA⟩
theorem PairAt.rowDown (h : PairAt w W P gf gg uv dv nv av p) {l : List Nat} (k : Keep (P :: dv.ownBlock.toList) W W') (hm : Mv W dv v') (hQ : QRow W' 0 38 1 v' l.length (u32Row l)) (hB : Blk W' P (pairCells gf gg uv v' nv av { p with down := l }) 78) : PairAt w W' P gf gg uv v' nv av { p with down := l } := by
  obtain ⟨h1, h2, h3, h4, h5⟩ := h.far
  obtain ⟨hX, hA⟩ := pair_set h.fop h.apart 3 dv v' rfl k PairAt.hP hm (fun x hx => (q_lt hQ x hx).2)
  have hg : gg ∉ P :: dv.ownBlock.toList := row_far (a := bv gg) (h1 _ (by simp)) (h2 dv (by simp)).symm gg rfl
  exact ⟨hB, hX, h.farm.keep k hg, q_keep h.up k (row_far (h1 _ (by simp)) (h3 _ (by simp)).symm), hQ, q_keep h.units k (row_far (h1 _ (by simp)) (h4 _ (by simp))), q_keep h.acc k (row_far (h1 _ (by simp)) (h4 _ (by simp))), hA⟩
theorem PairAt.rowUnits (h : PairAt w W P gf gg uv dv nv av p) {l : List ByteArray} (k : Keep (P :: nv.ownBlock.toList) W W') (hm : Mv W nv v') (hQ : QRow W' 0 9 1 v' l.length (stRow l)) (hB : Blk W' P (pairCells gf gg uv dv v' av { p with units := l }) 78) : PairAt w W' P gf gg uv dv v' av { p with units := l } := by
  obtain ⟨h1, h2, h3, h4, h5⟩ := h.far
  obtain ⟨hX, hA⟩ := pair_set h.fop h.apart 4 nv v' rfl k PairAt.hP hm (fun x hx => (q_lt hQ x hx).2)
  have hg : gg ∉ P :: nv.ownBlock.toList := row_far (a := bv gg) (h1 _ (by simp)) (h2 nv (by simp)).symm gg rfl
  exact ⟨hB, hX, h.farm.keep k hg, q_keep h.up k (row_far (h1 _ (by simp)) (h3 _ (by simp)).symm), q_keep h.down k (row_far (h1 _ (by simp)) (h4 _ (by simp)).symm), hQ, q_keep h.acc k (row_far (h1 _ (by simp)) h5), hA⟩
theorem PairAt.rowAcc (h : PairAt w W P gf gg uv dv nv av p) {l : List ByteArray} (k : Keep (P :: av.ownBlock.toList) W W') (hm : Mv W av v') (hQ : QRow W' 0 9 1 v' l.length (stRow l)) (hB : Blk W' P (pairCells gf gg uv dv nv v' { p with acc := l }) 78) : PairAt w W' P gf gg uv dv nv v' { p with acc := l } := by
  obtain ⟨h1, h2, h3, h4, h5⟩ := h.far
  obtain ⟨hX, hA⟩ := pair_set h.fop h.apart 5 av v' rfl k PairAt.hP hm (fun x hx => (q_lt hQ x hx).2)
  have hg : gg ∉ P :: av.ownBlock.toList := row_far (a := bv gg) (h1 _ (by simp)) (h2 av (by simp)).symm gg rfl
  exact ⟨hB, hX, h.farm.keep k hg, q_keep h.up k (row_far (h1 _ (by simp)) (h3 _ (by simp)).symm), q_keep h.down k (row_far (h1 _ (by simp)) (h4 _ (by simp)).symm), q_keep h.units k (row_far (h1 _ (by simp)) h5.symm), hQ, hA⟩
end
end
section
set_option maxHeartbeats 4000000 in
set_option maxRecDepth 100000 in
theorem events_acks (P gf gg : Nat) (uv dv nv : Value) (aa : Option Addr) (ac : Nat) (p : Pr) (b kn : Nat) (v : Value) (w : World) (hb : p.acked = b) (hk : b + kn ≤ p.acc.length) (ha : p.acc.length ≤ 1000000) (hB : Blk w P (pairCells gf gg uv dv nv (.slice aa p.acc.length ac) p) 78)
    (hQ : QRow w 0 46 3 v kn (evRow ((List.range kn).map fun i => (⟨2, ((b + i : Nat) : Int) + 1, 0⟩ : Ev)))) (hv : v.ownBlock ≠ some P) :
    Calls Try.prog 31 #[.pointer (some ⟨P, 0, none⟩), v] w fun e w' => e = .returned (.bool true) ∧ Keep [P] w w' ∧ Blk w' P (pairCells gf gg uv dv nv (.slice aa p.acc.length ac) { p with acked := b + kn }) 78 := by
  obtain ⟨va, vc, hve⟩ := qform hQ
  subst hve
  have HB := Lib.hid (show Blk w P (pairCells gf gg uv dv nv (.slice aa p.acc.length ac) { p with acked := b + 0 }) 78 by rw [Nat.add_zero, ← hb]; exact hB)
  have HQ := Lib.hid hQ
  have HV := Lib.hid hv
  clear hB hb hQ hv
  go_enter Try.func31, Try.ntmps31
  go_wp2_with fail
  go_loopw [5] (fun iv wr => ∃ i : Nat, i ≤ kn ∧ iv = .int .i64 i ∧ Keep [P] w wr ∧ Blk wr P (pairCells gf gg uv dv nv (.slice aa p.acc.length ac) { p with acked := b + i }) 78) (fun iv _ => kn - (intOf iv).toNat)
  case atStart => exact ⟨0, Nat.zero_le _, rfl, Keep.refl _ _, HB.out⟩
  case round =>
    obtain ⟨i, hi, rfl, hK, hB⟩ := hrel
    by_cases hlt : i < kn
    · obtain ⟨q, off, cap, hve, -, hqw, hcap, hcl, hfr⟩ := q_cells HQ.out (by omega)
      injection hve with e1 e2 e3
      clear e2
      subst e1 e3
      have hqP : q ∉ [P] := fun hm => by simp at hm; exact HV.out (by rw [← hm]; rfl)
      have hat := evRow_at ((List.range kn).map fun i => (⟨2, ((b + i : Nat) : Int) + 1, 0⟩ : Ev)) i (by simpa using hlt)
      have d0 := (hK.cell (p := ⟨q, off + i * 3, none⟩) hqw hqP).trans (hcl _ _ hat.1)
      have d1 := (hK.cell (p := ⟨q, off + (i * 3 + 1), none⟩) hqw hqP).trans (hcl _ _ hat.2.1)
      simp only [List.getElem_map, List.getElem_range, ← Nat.add_assoc] at d0 d1
      have c6 := hB.cell 6; have f6 := hB.free 6
      simp only [pairCells, List.getElem?_cons_zero, List.getElem?_cons_succ] at c6
      have HK := Lib.hid hK; have HB := Lib.hid hB
      clear hat hcl hfr hK hB hcap
      go_upto_region 8 with fail
      have hcast : (((b + i : Nat) : Int) + 1) = ((b + (i + 1) : Nat) : Int) := by omega
      have hB2 : Blk (wr.setCell ⟨P, 6, none⟩ (.int .i64 (((b + i : Nat) : Int) + 1))) P (pairCells gf gg uv dv nv (.slice aa p.acc.length ac) { p with acked := b + (i + 1) }) 78 := by
        have := HB.out.set 6 (.int .i64 (((b + i : Nat) : Int) + 1))
        rw [hcast] at this ⊢
        exact this
      have hd1 : (wr.setCell ⟨P, 6, none⟩ (.int .i64 (((b + i : Nat) : Int) + 1))).cell? ⟨q, off + i * 3 + 1, none⟩ = some (.int .i64 (((b + i : Nat) : Int) + 1)) := (((Keep.refl [P] wr).setCell (p := ⟨P, 6, none⟩) (.inl (by simp)) _).cell (p := ⟨q, off + i * 3 + 1, none⟩) (World.block_lt_of_cell? _ _ d1) hqP).trans d1
      refine gen_world (fun W => Keep [P] w W ∧ Blk W P (pairCells gf gg uv dv nv (.slice aa p.acc.length ac) { p with acked := b + (i + 1) }) 78 ∧ W.cell? ⟨q, off + i * 3 + 1, none⟩ = some (.int .i64 (((b + i : Nat) : Int) + 1))) ⟨HK.out.setCell (.inl (by simp)) _, hB2, hd1⟩ ?_
      clear HK HB hB2 hd1 d0 d1 c6 f6
      rintro w2 ⟨hK, hB, d1⟩
      have c5 := hB.cell 5; have c6 := hB.cell 6
      simp only [pairCells, List.getElem?_cons_zero, List.getElem?_cons_succ] at c5 c6
      rw [hcast] at d1
      have k1 : ¬ (p.acc.length : Int) < ((b + (i + 1) : Nat) : Int) := by omega
      have k2 : ¬ p.acc.length < b + (i + 1) := by omega
      have k3 : i < kn := hlt
      have HK := Lib.hid hK; have HB := Lib.hid hB
      clear hK hB hcast
      go_quiet (fail)
      refine post_any (fun W => Keep [P] w W ∧ Blk W P (pairCells gf gg uv dv nv (.slice aa p.acc.length ac) { p with acked := b + (i + 1) }) 78) ⟨HK.out.drewN _, HB.out.drewN _⟩ ?_
      clear HK HB d1 c5 c6
      rintro w3 ⟨hK, hB⟩
      have HK := Lib.hid hK; have HB := Lib.hid hB
      clear hK hB
      go_wp2_with fail
      go_roundw
      case rel => exact ⟨i + 1, by omega, by go_num, HK.out, HB.out⟩
      case measure => simp [intOf]; omega
    · obtain rfl : i = kn := by omega
      have HK := Lib.hid hK; have HB := Lib.hid hB
      clear hK hB
      go_wp2_with fail
      go_ret
      exact ⟨rfl, HK.out, HB.out⟩
set_option maxHeartbeats 4000000 in
set_option maxRecDepth 100000 in
theorem events_alert (P gf gg : Nat) (uv dv nv av : Value) (p : Pr) (v : Value) (w : World) (hB : Blk w P (pairCells gf gg uv dv nv av p) 78)
    (hQ : QRow w 0 46 3 v 1 (evRow [⟨3, 0, 1⟩])) (hv : v.ownBlock ≠ some P) :
    Calls Try.prog 31 #[.pointer (some ⟨P, 0, none⟩), v] w fun e w' => e = .returned (.bool true) ∧ Keep [P] w w' ∧ Blk w' P (pairCells gf gg uv dv nv av { p with alert := 1 }) 78 := by
  obtain ⟨q, off, cap, hve, -, hqw, hcap, hcl, hfr⟩ := q_cells hQ (by omega)
  subst hve
  have hqP : q ∉ [P] := fun hm => by simp at hm; exact hv (by rw [← hm]; rfl)
  have d0 := hcl 0 _ rfl
  have d2 := hcl 2 _ rfl
  simp only [Nat.add_zero] at d0
  have c7 := hB.cell 7; have f7 := hB.free 7
  simp only [pairCells, List.getElem?_cons_zero, List.getElem?_cons_succ] at c7
  have hPq : P ≠ q := fun e => hqP (by simp [e])
  have e2 : (w.setCell ⟨P, 7, none⟩ (.int .i64 1)).cell? ⟨q, off + 2, none⟩ = some (.int .i64 1) := (((Keep.refl [P] w).setCell (p := ⟨P, 7, none⟩) (.inl (by simp)) _).cell (p := ⟨q, off + 2, none⟩) hqw hqP).trans d2
  have HB := Lib.hid hB
  clear hQ hcl hfr hB hv
  go_enter Try.func31, Try.ntmps31
  go_wp2_with fail
  go_loopw [5] (fun iv wr => ∃ i : Nat, i ≤ 1 ∧ iv = .int .i64 i ∧ (i = 0 ∧ wr = w ∨ i = 1 ∧ Keep [P] w wr ∧ Blk wr P (pairCells gf gg uv dv nv av { p with alert := 1 }) 78)) (fun iv _ => 1 - (intOf iv).toNat)
  case atStart => exact ⟨0, by omega, rfl, .inl ⟨rfl, rfl⟩⟩
  case round =>
    obtain ⟨i, hi, rfl, hr⟩ := hrel
    rcases hr with ⟨h0, rfl⟩ | ⟨h1, hK, hB⟩
    · have k1 : i < 1 := by omega
      have k2 : (i : Int) < 1 := by omega
      have k3 : ((i : Int) != 0) = false := by simp [h0]
      have k4 : off + i * 3 = off := by omega
      clear h0 hi
      go_wp2_with fail
      go_roundw
      case rel => exact ⟨i + 1, by omega, by go_num, .inr ⟨by omega, (Keep.refl [P] _).setCell (.inl (by simp)) _, HB.out.set 7 _⟩⟩
      case measure => simp [intOf]; omega
    · obtain rfl : i = 1 := h1
      have HK := Lib.hid hK; have HB := Lib.hid hB
      clear hK hB
      go_wp2_with fail
      go_ret
      exact ⟨rfl, HK.out, HB.out⟩
end
end Go.Proofs.Ytbncejmohhejlaa
