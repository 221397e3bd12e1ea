/- What is proved here: the walk of what the pair does with a control word. -/
import Derived.Test.YtbncejmohhejlaaPw4
import Derived.Test.YtbncejmohhejlaaFo15
import Derived.Test.YtbncejmohhejlaaF5
set_option linter.unusedVariables false
set_option linter.unusedSimpArgs false
namespace Go.Proofs.Ytbncejmohhejlaa
open Go.RowKit
section
theorem u32Row_cons (n : Nat) (l : List Nat) : u32Row (n :: l) = .int .u32 (n : Int) :: u32Row l := rfl
theorem info_u32 : (Try.prog.info? 38).map (fun i => (i.zero, i.size, i.bytes)) = some (some (.int .u32 0), 1, 4) := by kernel_rfl
/-- The first word is taken off. -/
theorem down_tail {w : World} {v : Value} {n : Nat} {l : List Nat} (h : QRow w 0 38 1 v (l.length + 1) (u32Row (n :: l))) :
    ∃ v', (∀ W, (Instr.slice 22 v (some (.int .i64 1)) none none).run Try.prog W = .ok v' W) ∧ QRow w 0 38 1 v' l.length (u32Row l) ∧ v'.ownBlock = v.ownBlock := by
  obtain ⟨i0, hi, hz0, hz1, hz2⟩ := info_parts info_u32
  obtain ⟨v', h1, h2, h3⟩ := q_from 22 i0 Try.underlying22 hi hz1 h .i64 1 (by omega)
  exact ⟨v', h1, by simpa [u32Row] using h2, h3⟩
/-- A call of a method that gives events, with what is known of their row. -/
theorem Fx.callG {w W : World} {g : Nat} {R : List Nat} {s : Fs} (h : Fx w W g R s) : ∃ S1, FopIn W g S1 s ∧ (∀ i ∈ S1, i < W.heap.size) ∧
    (∀ {W' s' S' l v}, Pt W W' g S1 S' s' → Given W W' S1 S' l v → Fx w W' g R s' ∧ QRow W' 0 46 3 v l.length (evRow l) ∧ (∀ r ∈ R, W'.heap[r]? = W.heap[r]?) ∧ ∀ r ∈ R, v.ownBlock ≠ some r) := by
  obtain ⟨S1, h1, h2, h3⟩ := h
  refine ⟨S1, h1.in_, h2, fun {W' s' S' l v} k1 k2 => ?_⟩
  obtain ⟨S3, l1, l2, l3⟩ := k1.in_.small
  have hn : ∀ x ∈ S3, x ∈ ([] : List Nat) ∨ w.heap.size ≤ x := fun x hx => by
    rcases k1.new x (l3 x hx) with e | e
    · exact h1.new x e
    · exact .inr (Nat.le_trans h1.keep.size e)
  refine ⟨⟨S3, ⟨l1, h1.keep.trans_new k1.keep h1.new, hn⟩, l2, fun r hr => ?_⟩, k2.1, fun r hr => k1.keep.block r (h3 r hr).2.1 (h3 r hr).2.2, fun r hr he => ?_⟩
  · refine ⟨(h3 r hr).1, Nat.lt_of_lt_of_le (h3 r hr).2.1 k1.keep.size, fun hm => ?_⟩
    rcases k1.new r (l3 r hm) with e | e
    · exact (h3 r hr).2.2 e
    · have := (h3 r hr).2.1; omega
  · rcases (k2.2 r he).2 with e | e
    · exact (h3 r hr).2.2 e
    · have := (h3 r hr).2.1; omega
def hearS (n0 b : Nat) (x : Dw) (s : Fs) : Fs := { wordF s ((n0 + x.n) % 256 : Nat) x.wait x.retx (x.n - b) with events := [] }
set_option maxHeartbeats 8000000 in
set_option maxRecDepth 100000 in
theorem hear_none {w W : World} {P gf gg : Nat} {uv dv nv av : Value} {p : Pr} (hd : p.down = []) (h : PairAt w W P gf gg uv dv nv av p) :
    Calls Try.prog 30 #[.pointer (some ⟨P, 0, none⟩)] W fun e w' => e = .returned (.bool true) ∧ w' = W := by
  obtain ⟨va, vc, hve⟩ := qform h.down
  rw [hd] at hve
  subst hve
  have c3 := h.blk.cell 3
  simp only [pairCells, List.getElem?_cons_zero, List.getElem?_cons_succ, List.length_nil] at c3
  clear h
  go_enter Try.func30, Try.ntmps30
  go_wp2_with fail
  go_ret
  exact ⟨rfl, rfl⟩
set_option maxHeartbeats 8000000 in
set_option maxRecDepth 100000 in
theorem hear_some {w W : World} {P gf gg : Nat} {uv dv nv av : Value} {p : Pr} {k n0 L b : Nat} {tm : Int} {ups : List (Option Nat)} {x : Dw} {ds : List Dw} (hI : Inv k n0 L tm p ups (x :: ds) b) (hU : p.units.length ≤ 1000000) (hL : ds.length ≤ 1000000) (h : PairAt w W P gf gg uv dv nv av p) :
    Calls Try.prog 30 #[.pointer (some ⟨P, 0, none⟩)] W fun e w' => e = .returned (.bool true) ∧ ∃ dv', PairAt w w' P gf gg uv dv' nv av { p with s := hearS n0 b x p.s, down := ds.map (dwN n0), acked := x.n } := by
  obtain ⟨h1, h2, h3, h4, h5, -⟩ := hI.hear x ds rfl
  have hac := hI.acks (x.n - b) h3
  have hx3 : x.bypd ≤ 3 := (hI.d1 x (by simp)).2.2
  have hd : p.down = dwN n0 x :: ds.map (dwN n0) := hI.hdown
  have hfine := hI.fine
  have hnw : dwN n0 x < 4294967296 := by
    unfold dwN wordN
    have := bn_le false; have := bn_le x.wait; have := bn_le x.retx
    omega
  have hrd := readV_word 2 x.bypd ((n0 + x.n) % 256) false x.wait x.retx (by omega) hx3 (by omega)
  have hRW : ∀ (S1 : List Nat) (W1 : World), (∀ i ∈ S1, i < W1.heap.size) → FopIn W1 gf S1 p.s → Calls Try.prog 15 #[.pointer (some ⟨gf, 0, none⟩), .int .u32 (dwN n0 x : Nat)] W1 fun e w' => ∃ v S', e = .returned (.tuple #[v, .int .i64 0]) ∧ Pt W1 w' gf S1 S' (hearS n0 b x p.s) ∧ Given W1 w' S1 S' ((List.range (x.n - b)).map fun i => (⟨2, ((b + i : Nat) : Int) + 1, 0⟩ : Ev)) v := by
    intro S1 W1 hl1 hi1
    have := Word_ready p.s gf S1 W1 (dwN n0 x) (2 : Nat) (x.bypd : Nat) ((n0 + x.n) % 256 : Nat) x.wait x.retx (x.n - b) hnw hrd hI.chan.symm hI.serv (by rw [hI.ev]; simp) hfine.sent hfine.base0 hfine.base1 (by omega) (by omega) h4 h3 hfine.win hl1 hi1
    rw [h5, hac] at this
    exact this
  have HRW := Lib.hid hRW
  have hbk : b + (x.n - b) = x.n := by omega
  have hbN : b + (x.n - b) ≤ p.acc.length := by omega
  have hau : p.acc.length ≤ 1000000 := by have := hI.Nb; have := hI.len; omega
  have hpb : p.acked = b := hI.acked
  have hdq := h.down
  rw [hd] at hdq
  have hdq' : QRow W 0 38 1 dv ((ds.map (dwN n0)).length + 1) (u32Row (dwN n0 x :: ds.map (dwN n0))) := hdq
  obtain ⟨nw, hnw'⟩ : ∃ n, n = dwN n0 x := ⟨_, rfl⟩
  obtain ⟨l, hl⟩ : ∃ l, l = ds.map (dwN n0) := ⟨_, rfl⟩
  have hlen : l.length ≤ 1000000 := by rw [hl]; simpa using hL
  rw [← hnw'] at HRW hdq'
  rw [← hl] at hdq' ⊢
  clear hRW h1 h2 h3 h4 h5 hac hx3 hd hfine hnw hrd hdq hnw' hl hI hL hU
  obtain ⟨q, off, cap, hve, -, hqw, hcap, hcl, hfr⟩ := q_cells hdq' (by omega)
  have d0 : W.cell? ⟨q, off, none⟩ = some (.int .u32 (nw : Nat)) := hcl 0 _ rfl
  subst hve
  obtain ⟨v', hsl, hq', hown⟩ := down_tail hdq'
  have hsl2 : ∀ W, Sem.run Try.prog (Instr.sliceAt 22 (.slice (some ⟨q, off, none⟩) (l.length + 1) cap) (some (.int .i64 1)) none none) W = .ok v' W := hsl
  obtain ⟨va, vc, hve'⟩ := qform hq'
  subst hve'
  have c3 := h.blk.cell 3; have f3 := h.blk.free 3
  have c0 := h.blk.cell 0; have f0 := h.blk.free 0
  simp only [pairCells, List.getElem?_cons_zero, List.getElem?_cons_succ] at c3 c0
  have k1 : ((l.length + 1 : Nat) : Int) ≠ 0 := by omega
  have k2 : (((l.length + 1 : Nat) : Int) == 0) = false := by simp; omega
  have HP := Lib.hid h; have HQ := Lib.hid hq'; have HO := Lib.hid hown
  clear h hq' hown hcl hfr hdq' hsl
  go_enter Try.func30, Try.ntmps30
  go_upto_region 5 with fail
  have hQK := HP.out.far
  have hPA : PairAt w (W.setCell ⟨P, 3, none⟩ (.slice va l.length vc)) P gf gg uv (.slice va l.length vc) nv av { p with down := l } :=
    HP.out.rowDown (((Keep.refl _ W).setCell (.inl (by simp)) _)) (fun j hj => .inl (by rw [← HO.out]; exact hj)) (q_keep HQ.out ((Keep.refl [P] W).setCell (.inl (by simp)) _) (by rw [HO.out]; exact far_not (hQK.1 _ (by simp)) rfl)) (HP.out.blk.set 3 _)
  refine gen_world (fun W => PairAt w W P gf gg uv (.slice va l.length vc) nv av { p with down := l }) hPA ?_
  clear HP HQ HO hQK hPA d0 hsl2 c3 f3 c0 f0 k1 k2
  rintro W1 hPA
  have HP := Lib.hid hPA; clear hPA
  have c0 := HP.out.blk.cell 0; have f0 := HP.out.blk.free 0
  simp only [pairCells, List.getElem?_cons_zero, List.getElem?_cons_succ] at c0
  go_wp2_with fail
  obtain ⟨S1, hI, hlt, hgv⟩ := HP.out.fop.callG
  refine (HRW.out S1 _ hlt hI).mono ?_
  rintro e W2 ⟨v, S2, rfl, hP, hG⟩
  obtain ⟨hX, hQ, hR, hF⟩ := hgv hP hG
  have hP2 : PairAt w W2 P gf gg uv (.slice va l.length vc) nv av { p with s := hearS n0 b x p.s, down := l } := HP.out.call hX hR
  have hFP : v.ownBlock ≠ some P := hF P (in_blocks (v := bv P) (by simp) rfl)
  obtain ⟨aa, ac, hav⟩ := qform hP2.acc
  subst hav
  have HQ := Lib.hid hQ; have HP2 := Lib.hid hP2; have HFP := Lib.hid hFP
  clear hI hlt hgv hP hG hX hQ hR hF hP2 hFP HRW HP c0 f0
  go_wp2_with fail
  simp only [List.length_map, List.length_range] at HQ
  refine (events_acks P gf gg uv (.slice va l.length vc) nv aa ac { p with s := hearS n0 b x p.s, down := l } b (x.n - b) v W2 hpb hbN hau HP2.out.blk HQ.out HFP.out).mono ?_
  rintro e W3 ⟨rfl, hK, hB⟩
  rw [hbk] at hB
  have hP3 := HP2.out.nums (a := x.n) (l := p.alert) hK hB
  have HP3 := Lib.hid hP3
  clear hK hB hP3 HP2 HQ HFP
  go_wp2_with fail
  go_ret
  exact ⟨rfl, _, HP3.out⟩
end
section
theorem info_tc : (Try.prog.info? 31).map (fun i => (i.zero, i.size, i.bytes)) = some (some (.agg #[.int .i64 0, .int .i64 0, .bool false, .bool false, .int .i64 0, .string ⟨#[]⟩]), 6, 48) := by kernel_rfl
theorem tcRow_cons (x : Tc) (l : List Tc) : tcRow (x :: l) = x.cells ++ tcRow l := by simp [tcRow]
/-- The first frame is taken off. -/
theorem up_tail {w : World} {v : Value} {x : Tc} {l : List Tc} (h : QRow w 0 31 6 v (l.length + 1) (tcRow (x :: l))) :
    ∃ v', (∀ W, (Instr.slice 76 v (some (.int .i64 1)) none none).run Try.prog W = .ok v' W) ∧ QRow w 0 31 6 v' l.length (tcRow l) ∧ v'.ownBlock = v.ownBlock := by
  obtain ⟨i0, hi, hz0, hz1, hz2⟩ := info_parts info_tc
  obtain ⟨v', h1, h2, h3⟩ := q_from 76 i0 Try.underlying76 hi hz1 h .i64 1 (by omega)
  exact ⟨v', h1, by simpa [tcRow_cons, Tc.cells] using h2, h3⟩
theorem PairAt.drew {w W : World} {P gf gg : Nat} {uv dv nv av : Value} {p : Pr} (h : PairAt w W P gf gg uv dv nv av p) : PairAt w W.drew P gf gg uv dv nv av p := h.below (Below.refl _ _).drew
theorem PairAt.drewN {w W : World} {P gf gg : Nat} {uv dv nv av : Value} {p : Pr} (h : PairAt w W P gf gg uv dv nv av p) (n : Nat) : PairAt w (W.drewN n) P gf gg uv dv nv av p := h.below ⟨rfl, rfl, rfl, Nat.le_refl _, fun _ _ => rfl⟩
theorem PairAt.sure {w W W' : World} {P gf gg : Nat} {uv dv nv av v : Value} {p : Pr} (h : PairAt w W P gf gg uv dv nv av p) (hv : v ∈ [uv, dv, nv, av]) (k : Keep v.ownBlock.toList W W') :
    Blk W' P (pairCells gf gg uv dv nv av p) 78 ∧ Blk W' gg p.f.cells 112 := by
  obtain ⟨h1, h2, -⟩ := h.far
  refine ⟨h.blk.keep k fun hm => ?_, h.farm.keep k fun hm => ?_⟩
  · exact h1 v (List.mem_cons_of_mem _ hv) P rfl (by simpa using hm)
  · exact h2 v hv gg rfl (by simpa using hm)
theorem PairAt.notP {w W W1 : World} {P gf gg : Nat} {uv dv nv av v v' : Value} {p : Pr} (h : PairAt w W P gf gg uv dv nv av p) (hv : v ∈ [uv, dv, nv, av]) (hL : W.heap.size ≤ W1.heap.size) (hm : v'.ownBlock = v.ownBlock ∨ v'.ownBlock = some W1.heap.size) : v'.ownBlock ≠ some P := by
  obtain ⟨h1, -⟩ := h.far
  intro e
  rcases hm with hm | hm
  · exact h1 v (List.mem_cons_of_mem _ hv) P rfl (by rw [← hm, e])
  · rw [e] at hm; injection hm with hm
    have := h.blk.lt; omega
section
variable {w W W1 W2 : World} {P gf gg : Nat} {uv dv nv av v' : Value} {p : Pr}
theorem PairAt.pushUp (h : PairAt w W P gf gg uv dv nv av p) (hL : Below W.heap.size W W1) {l : List Tc} (hk : Keep uv.ownBlock.toList W1 W2) (hm : v'.ownBlock = uv.ownBlock ∨ v'.ownBlock = some W1.heap.size) (hq : QRow W2 0 31 6 v' l.length (tcRow l)) :
    PairAt w (W2.setCell ⟨P, 2, none⟩ v') P gf gg v' dv nv av { p with up := l } := by
  have k2 := ((Keep.refl uv.ownBlock.toList W).below hL (Nat.le_refl _)).trans hk
  have hS := h.sure (v := uv) (by simp) k2
  have hn := h.notP (v := uv) (v' := v') (by simp) hL.size hm
  refine h.rowUp ((k2.mono (fun i hi => List.mem_cons_of_mem _ hi)).setCell (p := ⟨P, 2, none⟩) (.inl (by simp)) _) (fun k hk => ?_) (q_set hq hn _) (hS.1.set 2 _)
  rcases hm with e | e
  · exact .inl (by rw [← e]; exact hk)
  · right
    rw [e] at hk; injection hk with hk
    have := hL.size; omega
theorem PairAt.pushDown (h : PairAt w W P gf gg uv dv nv av p) (hL : Below W.heap.size W W1) {l : List Nat} (hk : Keep dv.ownBlock.toList W1 W2) (hm : v'.ownBlock = dv.ownBlock ∨ v'.ownBlock = some W1.heap.size) (hq : QRow W2 0 38 1 v' l.length (u32Row l)) :
    PairAt w (W2.setCell ⟨P, 3, none⟩ v') P gf gg uv v' nv av { p with down := l } := by
  have k2 := ((Keep.refl dv.ownBlock.toList W).below hL (Nat.le_refl _)).trans hk
  have hS := h.sure (v := dv) (by simp) k2
  have hn := h.notP (v := dv) (v' := v') (by simp) hL.size hm
  refine h.rowDown ((k2.mono (fun i hi => List.mem_cons_of_mem _ hi)).setCell (p := ⟨P, 3, none⟩) (.inl (by simp)) _) (fun k hk => ?_) (q_set hq hn _) (hS.1.set 3 _)
  rcases hm with e | e
  · exact .inl (by rw [← e]; exact hk)
  · right
    rw [e] at hk; injection hk with hk
    have := hL.size; omega
theorem PairAt.pushUnits (h : PairAt w W P gf gg uv dv nv av p) (hL : Below W.heap.size W W1) {l : List ByteArray} (hk : Keep nv.ownBlock.toList W1 W2) (hm : v'.ownBlock = nv.ownBlock ∨ v'.ownBlock = some W1.heap.size) (hq : QRow W2 0 9 1 v' l.length (stRow l)) :
    PairAt w (W2.setCell ⟨P, 4, none⟩ v') P gf gg uv dv v' av { p with units := l } := by
  have k2 := ((Keep.refl nv.ownBlock.toList W).below hL (Nat.le_refl _)).trans hk
  have hS := h.sure (v := nv) (by simp) k2
  have hn := h.notP (v := nv) (v' := v') (by simp) hL.size hm
  refine h.rowUnits ((k2.mono (fun i hi => List.mem_cons_of_mem _ hi)).setCell (p := ⟨P, 4, none⟩) (.inl (by simp)) _) (fun k hk => ?_) (q_set hq hn _) (hS.1.set 4 _)
  rcases hm with e | e
  · exact .inl (by rw [← e]; exact hk)
  · right
    rw [e] at hk; injection hk with hk
    have := hL.size; omega
theorem PairAt.pushAcc (h : PairAt w W P gf gg uv dv nv av p) (hL : Below W.heap.size W W1) {l : List ByteArray} (hk : Keep av.ownBlock.toList W1 W2) (hm : v'.ownBlock = av.ownBlock ∨ v'.ownBlock = some W1.heap.size) (hq : QRow W2 0 9 1 v' l.length (stRow l)) :
    PairAt w (W2.setCell ⟨P, 5, none⟩ v') P gf gg uv dv nv v' { p with acc := l } := by
  have k2 := ((Keep.refl av.ownBlock.toList W).below hL (Nat.le_refl _)).trans hk
  have hS := h.sure (v := av) (by simp) k2
  have hn := h.notP (v := av) (v' := v') (by simp) hL.size hm
  refine h.rowAcc ((k2.mono (fun i hi => List.mem_cons_of_mem _ hi)).setCell (p := ⟨P, 5, none⟩) (.inl (by simp)) _) (fun k hk => ?_) (q_set hq hn _) (hS.1.set 5 _)
  rcases hm with e | e
  · exact .inl (by rw [← e]; exact hk)
  · right
    rw [e] at hk; injection hk with hk
    have := hL.size; omega
end
theorem step_build_2 {ops : Array Oper} {o : Oper} {a : Act} {W : World} {K : Act → World → Prop} {Q : Exit → Act → World → Prop} {E : Prop} (t E0 : TypeId) (cs : List Value) (hgd : o.guard = none) (x y : Operand)
    (ho : o.op = .buildSlice t 2 #[(0, x), (1, y)]) (v v2 : Value) (hx : a.eval x = v) (hy : a.eval y = v2) (hrun : (Instr.buildSlice t 2 #[(0, v), (1, v2)]).run Try.prog W = .ok (.slice (some ⟨W.heap.size, 0, none⟩) 2 2) (W.alloc (.cells cs.toArray E0)))
    (h : K (a.put o.dst (.slice (some ⟨W.heap.size, 0, none⟩) 2 2)) (W.alloc (.cells cs.toArray E0))) :
    if Region.wanted o (yielded ops a.tmps) = true then Oper.wp Try.prog o a W K Q else E := by
  have hw : Region.wanted o (yielded ops a.tmps) = true := by simp [Region.wanted, hgd]
  rw [if_pos hw]
  have hr : (execOp a.eval o).run Try.prog W = .ok (.value (.slice (some ⟨W.heap.size, 0, none⟩) 2 2)) (W.alloc (.cells cs.toArray E0)) := by
    unfold execOp
    simp only [ho]
    simp only [List.map_toArray, List.map_cons, List.map_nil, hx, hy, Sem.run_bind, Sem.run_pure, hrun, Result.andThen_ok]
  unfold Oper.wp
  rw [hr]
  exact h
theorem build_tc (W : World) (x : Tc) : (Instr.buildSlice 76 1 #[(0, x.val)]).run Try.prog W = .ok (.slice (some ⟨W.heap.size, 0, none⟩) 1 1) (W.alloc (Obj.cells x.cells.toArray 31)) := by cases x; kernel_rfl
theorem build_w1 (W : World) (n : Nat) : (Instr.buildSlice 22 1 #[(0, .int .u32 n)]).run Try.prog W = .ok (.slice (some ⟨W.heap.size, 0, none⟩) 1 1) (W.alloc (Obj.cells (u32Row [n]).toArray 38)) := by kernel_rfl
theorem build_w2 (W : World) (n m : Nat) : (Instr.buildSlice 22 2 #[(0, .int .u32 n), (1, .int .u32 m)]).run Try.prog W = .ok (.slice (some ⟨W.heap.size, 0, none⟩) 2 2) (W.alloc (Obj.cells (u32Row [n, m]).toArray 38)) := by kernel_rfl
theorem tcRow_snoc (l : List Tc) (x : Tc) : tcRow (l ++ [x]) = tcRow l ++ x.cells := by simp [tcRow]
theorem u32Row_app (l m : List Nat) : u32Row (l ++ m) = u32Row l ++ u32Row m := by simp [u32Row]
end
end Go.Proofs.Ytbncejmohhejlaa
