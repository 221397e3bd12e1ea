/- What is proved here: a part of the proof of TopLink (texts Lu Lw J0). No condition. -/
import Derived.StillTailTactics
import Derived.Laws.StructEq
import Derived.Test.YtgopighmifpefaaGreatDoorPart20
import Derived.Test.YtgopighmifpefaaGreatDoorPart23
import Derived.Test.YtgopighmifpefaaGreatDoorPart24
import Derived.Test.YtgopighmifpefaaGreatDoorPart25
import Derived.Test.YtgopighmifpefaaGreatDoorPart26
set_option linter.unusedVariables false
set_option linter.unusedSimpArgs false
namespace Go.Proofs.YtgopighmifpefaaGreatDoor
section
open Go.RowKit
theorem drop_ext (d : ByteArray) : (d.extract 1 d.size).data.toList = d.data.toList.drop 1 := by
  rw [ByteArray.data_extract, Array.toList_extract, List.extract_eq_take_drop]
  exact List.take_of_length_le (by simp)
theorem str_back (d : ByteArray) (l : List UInt8) (h : d.data.toList = l) : d = ⟨l.toArray⟩ := by
  subst h; rfl
theorem Feed_seg (d : ByteArray) (a : Nat) (op : Bool) (v : Value) (xs : List UInt8) (w : World) (hg : GoodSeg op xs d.data.toList) (hA : AsmV w a op v xs) :
    Calls Tryz.prog 70 #[.pointer (some ⟨a, 0, none⟩), .string d] w fun e w' => e = .returned (.tuple #[pieceV (asmF xs d.data.toList).1 ⟨(asmF xs d.data.toList).2.1.toArray⟩ false, .int .i64 0]) ∧
      ∃ v', AsmTo w w' a v v' ∧ AsmV w' a (asmF xs d.data.toList).2.2.1 v' (asmF xs d.data.toList).2.2.2 := by
  obtain ⟨h1, h2, h3⟩ := hg
  have e1 : d.data.toList.length = d.size := by simp
  rw [e1] at h1 h2 h3
  have e2 : d.data.toList.headD 0 = d[0]'(by omega) := by
    rw [List.headD_eq_head?_getD, List.head?_eq_getElem?, List.getElem?_eq_getElem (by rw [e1]; omega)]
    rfl
  have ez : (d.extract 1 d.size).size = d.size - 1 := by rw [ByteArray.size_extract]; omega
  rw [e2] at h3
  unfold asmF
  rw [e2]
  rcases h3 with ⟨hf | hf, rfl⟩ | ⟨hf | hf, rfl, hx⟩ <;> rw [hf]
  · rw [if_pos rfl]
    refine Feed_kf d a false true false false v xs _ _ w h1 h2 (by rw [hf]; rfl) hA (fun W hW => ?_)
    have := first_k (d.extract 1 d.size) a false v xs W (by omega) hW
    rw [drop_ext] at this
    exact this
  · rw [if_neg (by decide), if_pos rfl]
    refine Feed_ko d a false false true false v xs _ _ w h1 h2 (by rw [hf]; rfl) hA (fun W hW => ?_)
    have := only_k (d.extract 1 d.size) a false v xs W (by omega) hW
    rw [str_back _ _ (drop_ext d)] at this
    rw [str_back _ _ (drop_ext d)]
    exact this
  · rw [if_neg (by decide), if_neg (by decide), if_neg (by decide)]
    refine Feed_km d a true true false false v xs _ _ w h1 h2 (by rw [hf]; rfl) hA (fun W hW => ?_)
    have := middle_k (d.extract 1 d.size) a v xs W (by omega) hW
    rw [drop_ext] at this
    exact this
  · rw [if_neg (by decide), if_neg (by decide), if_pos rfl]
    refine Feed_kl d a true false true false v xs _ _ w h1 h2 (by rw [hf]; rfl) hA (fun W hW => ?_)
    have := last_k (d.extract 1 d.size) a v xs W (by omega) hW
    rw [drop_ext] at this
    exact this
theorem lk_wd1 (a e f : Int) (b c d : Bool) (w : World) : (Instr.field 78 (.agg #[.int .i64 a, .bool b, .bool c, .bool d, .int .i64 e, .int .i64 f]) 1).run Tryz.prog w = .ok (.bool b) w := by kernel_rfl
theorem AsmTo.front {W W1 W2 : World} {a : Nat} {v v' : Value} (hb : Below W.heap.size W W1) (h : AsmTo W1 W2 a v v') : AsmTo W W2 a v v' := by
  refine ⟨Keep.trans_new ⟨hb.os, hb.tape, hb.output, hb.size, fun i hi _ => hb.block i hi⟩ h.keep (fun i hi => .inl hi), fun k hk => ?_⟩
  rcases h.mv k hk with e | e
  · exact .inl e
  · exact .inr (Nat.le_trans hb.size e)
theorem AsmTo.back {W W1 W2 : World} {a b : Nat} {v v' : Value} (h : AsmTo W W1 a v v') (k : Keep [b] W1 W2) (hb : W.heap.size ≤ b) : AsmTo W W2 a v v' :=
  ⟨h.keep.trans_new k (fun i hi => .inr (by simp at hi; omega)), h.mv⟩
section
variable {w W W5 : World} {c : Lc} {cs : List Value} {l : Ls} {av' : Value} {op' : Bool} {xs' : List UInt8}
/-- The answer's block was made behind the call. -/
theorem piece_A (h : LkM w W c cs l) (hTo : AsmTo W.drew W5 c.A c.av av') (hA : AsmV W5 c.A op' av' xs') (vs : List Value) :
    LkM w (W5.alloc (.cells vs.toArray 156)) { c with av := av' } cs { l with op := op', xs := xs' } ∧ LkTo W (W5.alloc (.cells vs.toArray 156)) c { c with av := av' } ∧ OutC { c with av := av' } (W5.alloc (.cells vs.toArray 156)) W5.heap.size ∧ Blk (W5.alloc (.cells vs.toArray 156)) W5.heap.size vs 156 := by
  obtain ⟨h1, h2⟩ := h.feed (hTo.front ((Below.refl _ _).drew)) hA
  have hL : Below W5.heap.size W5 (W5.alloc (.cells vs.toArray 156)) := (Below.refl _ _).alloc (Nat.le_refl _) _
  exact ⟨h1.below hL, h2.below hL, ⟨by simp, fun hm => by have := (h1.lt _ hm).2; omega⟩, Blk.new W5 vs _⟩
/-- The answer's block was made ahead of the call. -/
theorem piece_B (h : LkM w W c cs l) (z0 z1 z2 z3 a0 a1 a2 a3 : Value) (hTo : AsmTo (W.alloc (.cells #[z0, z1, z2, z3] 156)).drew W5 c.A c.av av') (hA : AsmV W5 c.A op' av' xs') {W6 : World}
    (hW : W6 = (((W5.setCell ⟨W.heap.size, 0, none⟩ a0).setCell ⟨W.heap.size, 1, none⟩ a1).setCell ⟨W.heap.size, 2, none⟩ a2).setCell ⟨W.heap.size, 3, none⟩ a3) :
    LkM w W6 { c with av := av' } cs { l with op := op', xs := xs' } ∧ LkTo W W6 c { c with av := av' } ∧ OutC { c with av := av' } W6 W.heap.size ∧ Blk W6 W.heap.size [a0, a1, a2, a3] 156 := by
  have hL : Below W.heap.size W (W.alloc (.cells #[z0, z1, z2, z3] 156)).drew := ((Below.refl _ _).alloc (Nat.le_refl _) _).drew
  have hz : Blk (W.alloc (.cells #[z0, z1, z2, z3] 156)).drew W.heap.size [z0, z1, z2, z3] 156 := (Blk.new W [z0, z1, z2, z3] _).drew
  have hO : OutC c (W.alloc (.cells #[z0, z1, z2, z3] 156)).drew W.heap.size := ⟨by simp [World.drew], fun hm => by have := (h.lt _ hm).2; omega⟩
  obtain ⟨h1, h2⟩ := (h.below hL).feed hTo hA
  obtain ⟨o1, o2⟩ := h2.out hO
  have k6 : Keep [W.heap.size] W5 W6 := by
    rw [hW]
    exact ((((Keep.refl _ _).setCell (.inl (by simp)) _).setCell (.inl (by simp)) _).setCell (.inl (by simp)) _).setCell (.inl (by simp)) _
  have hn : ∀ x ∈ c.A :: av'.ownBlock.toList, x ∉ [W.heap.size] := by
    intro x hx hm
    simp only [List.mem_singleton] at hm
    subst hm
    exact o1.2 (Lc.inA _ _ hx)
  have hA6 : AsmV W6 c.A op' av' xs' := hA.keep k6 (hn _ (by simp)) (fun g hg => hn g (by simp [hg]))
  obtain ⟨g1, g2⟩ := h.feed ((hTo.front hL).back k6 (Nat.le_refl _)) hA6
  refine ⟨g1, g2, ⟨Nat.lt_of_lt_of_le o1.1 k6.size, o1.2⟩, ?_⟩
  rw [hW]
  exact (((((hz.same o2).set 0 a0).set 1 a1).set 2 a2).set 3 a3)
end
section
variable {w' w'' : World} {L i r j : Nat} {x y : Value}
theorem t2_below (h : w'.cell? ⟨L, i, none⟩ = some x ∧ w'.cell? ⟨r, j, none⟩ = some y) (k : Below w'.heap.size w' w'') : w''.cell? ⟨L, i, none⟩ = some x ∧ w''.cell? ⟨r, j, none⟩ = some y :=
  ⟨(k.cell (p := ⟨L, i, none⟩) (World.block_lt_of_cell? _ _ h.1)).trans h.1, (k.cell (p := ⟨r, j, none⟩) (World.block_lt_of_cell? _ _ h.2)).trans h.2⟩
theorem t2_alloc (o : Obj) (h : w'.cell? ⟨L, i, none⟩ = some x ∧ w'.cell? ⟨r, j, none⟩ = some y) : (w'.alloc o).cell? ⟨L, i, none⟩ = some x ∧ (w'.alloc o).cell? ⟨r, j, none⟩ = some y := t2_below h ((Below.refl _ _).alloc (Nat.le_refl _) o)
theorem t2_drew (h : w'.cell? ⟨L, i, none⟩ = some x ∧ w'.cell? ⟨r, j, none⟩ = some y) : w'.drew.cell? ⟨L, i, none⟩ = some x ∧ w'.drew.cell? ⟨r, j, none⟩ = some y := h
theorem t2_keep {S : List Nat} (h : w'.cell? ⟨L, i, none⟩ = some x ∧ w'.cell? ⟨r, j, none⟩ = some y) (k : Keep S w' w'') (h1 : L ∉ S) (h2 : r ∉ S) : w''.cell? ⟨L, i, none⟩ = some x ∧ w''.cell? ⟨r, j, none⟩ = some y :=
  ⟨(k.cell (p := ⟨L, i, none⟩) (World.block_lt_of_cell? _ _ h.1) h1).trans h.1, (k.cell (p := ⟨r, j, none⟩) (World.block_lt_of_cell? _ _ h.2) h2).trans h.2⟩
theorem t2_set {g k : Nat} {v : Value} (h1 : L ≠ g) (h2 : r ≠ g) (h : w'.cell? ⟨L, i, none⟩ = some x ∧ w'.cell? ⟨r, j, none⟩ = some y) : (w'.setCell ⟨g, k, none⟩ v).cell? ⟨L, i, none⟩ = some x ∧ (w'.setCell ⟨g, k, none⟩ v).cell? ⟨r, j, none⟩ = some y :=
  ⟨(World.cell?_of_block (w := w') (a := ⟨L, i, none⟩) (Below.heap_setCell w' ⟨g, k, none⟩ v L h1)).trans h.1, (World.cell?_of_block (w := w') (a := ⟨r, j, none⟩) (Below.heap_setCell w' ⟨g, k, none⟩ v r h2)).trans h.2⟩
end
set_option maxHeartbeats 8000000 in
set_option maxRecDepth 100000 in
theorem take_walk {w W : World} {c : Lc} {l : Ls} (y : Tc) (hbad : l.bad = false) (hs : l.sent.length ≤ 1000000) (hca : l.came ≤ 1000000) (hpre : TakePre l y) (h : LkM w W c (lkCells c l) l) :
    Calls Tryz.prog 39 #[.pointer (some ⟨c.L, 0, none⟩), y.val] W fun e W' => e = .returned (.tuple #[]) ∧ ∃ c', LkTo W W' c c' ∧ LkM w W' c' (lkCells c' (takeS l y)) (takeS l y) := by
  obtain ⟨hok, he, hlo, hhalf, hseg⟩ := hpre
  have HTK : ∀ (W1 : World), Blk W1 c.gg l.f.cells 80 → Calls Tryz.prog 18 #[.pointer (some ⟨c.gg, 0, none⟩), y.val, .bool true] W1 fun e w' => e = .returned (.tuple #[.bool (takeF l.f y true).2.1, .int .i64 0]) ∧ Keep [c.gg] W1 w' ∧ Blk w' c.gg (takeF l.f y true).1.cells 80 := by
    intro W1 hB
    have := Take_any l.f y true c.gg W1 hok hB
    rw [he] at this
    exact this
  have HST : ∀ (W1 : World), Blk W1 c.gg (takeF l.f y true).1.cells 80 → Calls Tryz.prog 69 #[.pointer (some ⟨c.gg, 0, none⟩)] W1 fun e w' => e = .returned (.agg #[.int .i64 (takeF l.f y true).1.st.chan, .bool false, .bool (takeF l.f y true).1.st.wait, .bool (takeF l.f y true).1.st.retx, .int .i64 (takeF l.f y true).1.st.bypd, .int .i64 (takeF l.f y true).1.st.next]) ∧ Below W1.heap.size W1 w' :=
    fun W1 hB => (State_any _ _ _ hhalf hB).mono fun e w' h => ⟨by rw [h.1]; unfold Wd.val; rw [hlo], h.2⟩
  unfold takeS
  obtain ⟨T, hT⟩ : ∃ T, T = takeF l.f y true := ⟨_, rfl⟩
  rw [← hT] at HTK HST hseg ⊢
  clear hT he hok hlo hhalf
  obtain ⟨f', ok, er⟩ := T
  simp only at HTK HST hseg ⊢
  have HFD := fun (hk : ok = true) (V : World) (hA : AsmV V c.A l.op c.av l.xs) => Feed_seg y.data c.A l.op c.av l.xs V (hseg hk).1 hA
  have hin := fun (hk : ok = true) => (hseg hk).2
  clear hseg
  generalize asmF l.xs y.data.data.toList = R at HFD hin ⊢
  obtain ⟨wh, ms, op', xs'⟩ := R
  simp only at HFD hin ⊢
  unfold pieceV at HFD
  generalize hl' : (if ok = true then { l with f := f', came := (if wh = true then l.came + 1 else l.came), op := op', xs := xs' } else { l with f := f' } : Ls) = l'
  have HTK' := Lib.hid HTK; have HST' := Lib.hid HST; have HFD' := Lib.hid HFD; have HIN := Lib.hid hin; have HL := Lib.hid hl'
  clear HTK HST HFD hin hl'
  obtain ⟨yc, ych, yb, yck, ysq, yd⟩ := y
  have hP0 := h.below ((Below.refl _ _).alloc (Nat.le_refl _) (Obj.cells #[.int .i64 yc, .int .i64 ych, .bool yb, .bool yck, .int .i64 ysq, .string yd] 37))
  have HX := Lib.hid (Blk.new W [.int .i64 yc, .int .i64 ych, .bool yb, .bool yck, .int .i64 ysq, .string yd] 37)
  have HO0 : OutC c (W.alloc (Obj.cells #[.int .i64 yc, .int .i64 ych, .bool yb, .bool yck, .int .i64 ysq, .string yd] 37)) W.heap.size := ⟨by simp, fun hm => by have := (h.lt _ hm).2; omega⟩
  have HT0 := Lib.hid ((LkTo.refl (W := W) (c := c)).below ((Below.refl _ _).alloc (Nat.le_refl _) (Obj.cells #[.int .i64 yc, .int .i64 ych, .bool yb, .bool yck, .int .i64 ysq, .string yd] 37)))
  have HO := Lib.hid HO0
  have HP := Lib.hid hP0
  obtain ⟨r, hr⟩ : ∃ r, r = W.heap.size := ⟨_, rfl⟩
  clear h hP0 HO0
  go_enter Tryz.func39, Tryz.ntmps39
  go_upto_region 1 with fail
  rw [← hr] at HX HO
  refine gen_world (fun W1 => LkTo W W1 c c ∧ LkM w W1 c (lkCells c l) l ∧ OutC c W1 r ∧ Blk W1 r [.int .i64 yc, .int .i64 ych, .bool yb, .bool yck, .int .i64 ysq, .string yd] 37) ⟨HT0.out, HP.out, HO.out, HX.out⟩ ?_
  rw [← hr]
  clear HP HX HO HT0 hr
  rintro W1 ⟨hT, hP, hO, hX⟩
  have HT := Lib.hid hT; have HP := Lib.hid hP; have HO := Lib.hid hO; have HX := Lib.hid hX
  clear hT hP hO hX
  have c1 := HP.out.blk.cell 1
  simp only [lkCells, List.cons_append, List.nil_append, List.getElem?_cons_zero, List.getElem?_cons_succ, pt] at c1
  have x0 := HX.out.cell 0
  have x1 := HX.out.cell 1
  have x2 := HX.out.cell 2
  have x3 := HX.out.cell 3
  have x4 := HX.out.cell 4
  have x5 := HX.out.cell 5
  simp only [List.getElem?_cons_zero, List.getElem?_cons_succ] at x0 x1 x2 x3 x4 x5
  go_cut [4, 5] (fun p4 p5 W2 => p4 = .bool ok ∧ p5 = .int .i64 0 ∧ Keep [c.gg] W1 W2 ∧ Blk W2 c.gg f'.cells 80)
  case first =>
    as_aux_lemma =>
      go_region_with (first | (go_at_call 18; refine (HTK'.out _ (HP.out.farm.drew)).mono ?_; rintro e W2 ⟨rfl, hK, hB⟩) | fail)
      all_goals
        go_wp2_with fail
        go_meet
        exact ⟨rfl, rfl, ((Keep.refl _ _).drew).trans hK, hB⟩
  case rest =>
    obtain ⟨rfl, rfl, hK, hB⟩ := hcut
    have kT := LkTo.of (c := c) hK (fun x hx => .inl (by simp at hx; subst hx; exact c.inG))
    have hP2 := HP.out.board hK hB
    have hO2 := kT.out HO.out
    have hX2 := HX.out.same hO2.2
    have hT2 := HT.out.trans kT
    have HP2 := Lib.hid hP2; have HX2 := Lib.hid hX2; have HT2 := Lib.hid hT2; have HO2 := Lib.hid hO2.1; have HB2 := Lib.hid hB
    clear hK hB kT hP2 hO2 hX2 hT2 HP HX HT HO HTK' c1 x0 x1 x2 x3 x4 x5
    have c1 := HP2.out.blk.cell 1; have c10 := HP2.out.blk.cell 10; have f10 := HP2.out.blk.free 10
    simp only [lkCells, List.cons_append, List.nil_append, List.getElem?_cons_zero, List.getElem?_cons_succ, pt, hbad] at c1 c10
    go_wp2_with fail
    refine (HST'.out _ HB2.out).mono ?_
    rintro e w3 ⟨rfl, hL3⟩
    have hP3 := HP2.out.below hL3
    have hX3 := HX2.out.below hL3 HX2.out.lt
    have hT3 := HT2.out.below hL3
    have hO3 : OutC c w3 r := ⟨Nat.lt_of_lt_of_le HO2.out.1 hL3.size, HO2.out.2⟩
    have HP3 := Lib.hid hP3; have HX3 := Lib.hid hX3; have HT3 := Lib.hid hT3; have HO3 := Lib.hid hO3
    clear hL3 hP3 hX3 hT3 hO3 HP2 HX2 HT2 HO2 HB2 HST' c1 c10 f10
    have c10 := HP3.out.blk.cell 10; have f10 := HP3.out.blk.free 10
    simp only [lkCells, List.cons_append, List.nil_append, List.getElem?_cons_zero, List.getElem?_cons_succ, pt, hbad] at c10
    have hf1 := lk_wd1 f'.st.chan f'.st.bypd f'.st.next false f'.st.wait f'.st.retx
    go_upto_region 3 with fail
    have hP4 := HP3.out.poke 10 (.bool false)
    have e10 : (lkCells c l).set 10 (.bool false) = lkCells c l := by unfold lkCells; simp only [hbad]; rfl
    rw [e10] at hP4
    have kT := LkTo.poke (W := w3) (c := c) 10 (.bool false)
    have hO4 := kT.out HO3.out
    have hX4 := HX3.out.same hO4.2
    refine gen_world (fun W1 => LkTo W W1 c c ∧ LkM w W1 c (lkCells c l) { l with f := f' } ∧ OutC c W1 r ∧ Blk W1 r [.int .i64 yc, .int .i64 ych, .bool yb, .bool yck, .int .i64 ysq, .string yd] 37) ⟨HT3.out.trans kT, hP4, hO4.1, hX4⟩ ?_
    clear HT3 HP3 HX3 HO3 hf1 c10 f10 hP4 e10 kT hO4 hX4
    rintro W4 ⟨hT, hP, hO, hX⟩
    have HT := Lib.hid hT; have HP := Lib.hid hP; have HO := Lib.hid hO; have HX := Lib.hid hX
    clear hT hP hO hX
    cases ok
    · have e := HL.out
      simp only [Bool.false_eq_true, if_false] at e
      clear HIN HFD' HL
      go_wp2_with fail
      subst e
      exact bodyPost_ret (v := .tuple #[]) (by simp [results, Tryz.results39, go_sem]) rfl ⟨rfl, c, HT.out, HP.out⟩
    · have g2 := Lib.hid (HIN.out rfl)
      have HFD := Lib.hid (HFD'.out rfl)
      have e := HL.out
      simp only [if_true] at e
      have HL2 := Lib.hid e
      clear HIN HFD' HL e
      go_upto_region 4 with fail
      have c3 := HP.out.blk.cell 3
      simp only [lkCells, List.cons_append, List.nil_append, List.getElem?_cons_zero, List.getElem?_cons_succ, pt] at c3
      have x5 := HX.out.cell 5
      simp only [List.getElem?_cons_zero, List.getElem?_cons_succ] at x5
      go_cut [5, 6] (fun p5 p6 W2 => p5 = .int .i64 0 ∧ ∃ r2 av', p6 = .pointer (some ⟨r2, 0, none⟩) ∧ LkM w W2 { c with av := av' } (lkCells c l) { l with f := f', op := op', xs := xs' } ∧ LkTo W W2 c { c with av := av' } ∧ OutC { c with av := av' } W2 r2 ∧ Blk W2 r2 [.bool wh, .string ⟨ms.toArray⟩, .int .i64 0, .bool false] 156)
      case first =>
          have HPA := Lib.hid (HP.out.asm.below ((Below.refl W4.heap.size W4).drew))
          have HPB := Lib.hid (HP.out.asm.below (((Below.refl W4.heap.size W4).alloc (Nat.le_refl _) (Obj.cells #[.bool false, .string ⟨#[]⟩, .int .i64 0, .bool false] 156)).drew))
          have HZ := Lib.hid ((Blk.new W4 [.bool false, .string ⟨#[]⟩, .int .i64 0, .bool false] 156).drew)
          have HZO := Lib.hid (HP.out.asm.new_out (Nat.le_refl W4.heap.size))
          have hLA : c.L ∉ c.A :: c.av.ownBlock.toList := fun hm => dj_get HP.out.apart 3 0 _ _ rfl rfl (by decide) c.L (by simp) hm
          have hrA : r ∉ c.A :: c.av.ownBlock.toList := fun hm => HO.out.2 (c.inA r hm)
          have hLn : c.L ≠ W4.heap.size := Nat.ne_of_lt HP.out.blk.lt
          have hrn : r ≠ W4.heap.size := Nat.ne_of_lt HO.out.1
          have hI0 := And.intro c3 x5
          have HI1 := Lib.hid (t2_drew hI0)
          have HI2 := Lib.hid (t2_drew (t2_alloc (Obj.cells #[.bool false, .string ⟨#[]⟩, .int .i64 0, .bool false] 156) hI0))
          have HI3 := Lib.hid (t2_alloc (Obj.cells #[.bool false, .string ⟨#[]⟩, .int .i64 0, .bool false] 156) hI0)
          have HI0 := Lib.hid hI0
          clear hI0
          go_region_held3 (fun w' => w'.cell? ⟨c.L, 3, none⟩ = some (.pointer (some ⟨c.A, 0, none⟩)) ∧ w'.cell? ⟨r, 5, none⟩ = some (.string yd)) (first | with_reducible exact HI0.out | with_reducible exact HI1.out | with_reducible exact HI2.out | with_reducible exact HI3.out | with_reducible exact i5.out | with_reducible exact t2_alloc _ i5.out | (refine t2_set hLn hrn (t2_set hLn hrn (t2_set hLn hrn (t2_set hLn hrn ?_))); with_reducible exact i5.out)) (first | (go_at_call 70; refine (HFD.out _ HPA.out).mono ?_; rintro e W5 ⟨rfl, av', hTo, hA⟩; have i5 := Lib.hid (t2_keep HI1.out hTo.keep hLA hrA)) | (go_at_call 70; refine (HFD.out _ HPB.out).mono ?_; rintro e W5 ⟨rfl, av', hTo, hA⟩; have i5 := Lib.hid (t2_keep HI2.out hTo.keep hLA hrA); have hz5 := HZ.out.keep hTo.keep HZO.out; have q0 := hz5.cell 0; have q1 := hz5.cell 1; have q2 := hz5.cell 2; have q3 := hz5.cell 3; have p0 := hz5.free 0; have p1 := hz5.free 1; have p2 := hz5.free 2; have p3 := hz5.free 3; simp only [List.getElem?_cons_zero, List.getElem?_cons_succ] at q0 q1 q2 q3; clear hz5) | fail)
          all_goals (go_wp2_with fail; go_meet; refine ⟨rfl, _, av', rfl, ?_⟩; first | (obtain ⟨e1, e2, e3, e4⟩ := piece_A HP.out hTo hA [.bool wh, .string ⟨ms.toArray⟩, .int .i64 0, .bool false]; exact ⟨e1, HT.out.trans e2, e3, e4⟩) | (obtain ⟨e1, e2, e3, e4⟩ := piece_B HP.out _ _ _ _ (.bool wh) (.string ⟨ms.toArray⟩) (.int .i64 0) (.bool false) hTo hA rfl; exact ⟨e1, HT.out.trans e2, e3, e4⟩))
      case rest =>
        obtain ⟨rfl, r2, av', rfl, hP, hT, hO, hX⟩ := hcut
        have HPn := Lib.hid hP; have HTn := Lib.hid hT; have HXn := Lib.hid hX; have HOn := Lib.hid hO
        clear hP hT hO hX HT HP HO HX HFD c3 x5
        have c10 : wc.cell? ⟨c.L, 10, none⟩ = some (.bool false) := by
          have := HPn.out.blk.cell 10
          simp only [lkCells, List.cons_append, List.nil_append, List.getElem?_cons_zero, List.getElem?_cons_succ, hbad] at this
          exact this
        have f10 : wc.frozen? ⟨c.L, 10, none⟩ = false := HPn.out.blk.free 10
        have x0 := HXn.out.cell 0
        have x1 := HXn.out.cell 1
        have x2 := HXn.out.cell 2
        have x3 := HXn.out.cell 3
        simp only [List.getElem?_cons_zero, List.getElem?_cons_succ] at x0 x1 x2 x3
        go_upto_region 6 with fail
        have hP6 := HPn.out.poke 10 (.bool false)
        have e10 : (lkCells c l).set 10 (.bool false) = lkCells { c with av := av' } l := by unfold lkCells; simp only [hbad]; rfl
        rw [e10] at hP6
        have kT := LkTo.poke (W := wc) (c := { c with av := av' }) 10 (.bool false)
        have hX6 := HXn.out.same (kT.out HOn.out).2
        obtain ⟨c', hc'⟩ : ∃ c' : Lc, c' = { c with av := av' } := ⟨_, rfl⟩
        have hLL : c'.L = c.L := by rw [hc']
        rw [← hLL]
        refine gen_world (fun W1 => LkTo W W1 c c' ∧ LkM w W1 c' (lkCells c' l) { l with f := f', op := op', xs := xs' } ∧ Blk W1 r2 [.bool wh, .string ⟨ms.toArray⟩, .int .i64 0, .bool false] 156) (by subst hc'; exact ⟨HTn.out.trans kT, hP6, hX6⟩) ?_
        clear HTn HPn HXn HOn x0 x1 x2 x3 c10 f10 hP6 e10 kT hX6 hc' hLL
        rintro W6 ⟨hT, hP, hX⟩
        have HT := Lib.hid hT; have HP := Lib.hid hP; have HX := Lib.hid hX
        clear hT hP hX
        have x0 := HX.out.cell 0
        have x1 := HX.out.cell 1
        have x2 := HX.out.cell 2
        have x3 := HX.out.cell 3
        simp only [List.getElem?_cons_zero, List.getElem?_cons_succ] at x0 x1 x2 x3
        cases wh
        · have e := HL2.out
          simp only [Bool.false_eq_true, if_false] at e
          clear HL2 g2
          go_wp2_with fail
          go_end0
          subst e
          exact ⟨rfl, c', HT.out, HP.out⟩
        · have e := HL2.out
          simp only [if_true] at e
          obtain ⟨g3, g4⟩ := g2.out rfl
          have HL3 := Lib.hid e
          clear HL2 g2 e
          obtain ⟨q, off, cap, hve, -, hqw, hcap, hcl, hfr⟩ := q_cells HP.out.sent (show 0 < l.sent.length by omega)
          have dN : W6.cell? ⟨q, off + l.came, none⟩ = some (.string ⟨ms.toArray⟩) := hcl l.came (.string ⟨ms.toArray⟩) (by show (stRow l.sent)[l.came]? = _; unfold stRow; rw [List.getElem?_map, g4]; rfl)
          have c4 := HP.out.blk.cell 4; have c5 := HP.out.blk.cell 5; have c10 := HP.out.blk.cell 10; have f10 := HP.out.blk.free 10
          simp only [lkCells, List.cons_append, List.nil_append, List.getElem?_cons_zero, List.getElem?_cons_succ, hbad, hve] at c4 c5 c10
          have k1 : decide ((l.sent.length : Int) ≤ (l.came : Int)) = false := by simp; omega
          have k2 : (l.came : Int) < (l.sent.length : Int) := by omega
          clear hcl hfr g4
          go_upto_region 7 with fail
          go_still_tail 34, (by kernel_rfl)
          change wpList _ _ _ _ _ W6.drew
          have HT7 := Lib.hid (HT.out.below ((Below.refl W6.heap.size W6).drew))
          have HP7 := Lib.hid HP.out.drew
          clear HT HP HX x0 x1 x2 x3 c4 c5 c10 f10 dN k1 k2 hqw
          generalize W6.drew = W7 at HT7 HP7 ⊢
          have HT := HT7; have HP := HP7
          clear HT7 HP7
          have c5 := HP.out.blk.cell 5; have c10 := HP.out.blk.cell 10; have f10 := HP.out.blk.free 10; have f5 := HP.out.blk.free 5
          simp only [lkCells, List.cons_append, List.nil_append, List.getElem?_cons_zero, List.getElem?_cons_succ, hbad] at c5 c10
          have k4 : (-9223372036854775808 : Int) ≤ (l.came : Int) + 1 := by omega
          have k5 : (l.came : Int) + 1 ≤ 9223372036854775807 := by omega
          have hdc : decide (l.sent.length ≤ l.came) = false := by simp; omega
          go_wp2_with fail
          go_end0
          have e := HL3.out
          have hP8 := ((HP.out.poke 10 (.bool false)).poke 5 (.int .i64 ((l.came : Int) + 1))).nums (ca := l.came + 1) (od := l.odd) (ba := l.bad) (be := l.before)
          have e10 : ((lkCells c' l).set 10 (.bool false)).set 5 (.int .i64 ((l.came : Int) + 1)) = lkCells c' l' := by
            rw [← e]
            unfold lkCells
            simp only [hbad]
            rfl
          rw [e10] at hP8
          refine ⟨rfl, c', (HT.out.trans (LkTo.poke 10 _)).trans (LkTo.poke 5 _), ?_⟩
          rw [← e] at hP8 ⊢
          exact hP8
end
section
open Go.RowKit
/-- A list of one-celled values among the arguments. -/
def RowAt (w : World) (a : Option Addr) (n : Nat) (V : Nat → Value) : Prop := ∀ i, i < n → ∃ b off, a = some ⟨b, off, none⟩ ∧ b < w.heap.size ∧ w.cell? ⟨b, off + i, none⟩ = some (V i)
theorem RowAt.below {w w' : World} {a : Option Addr} {n B : Nat} {V : Nat → Value} (h : RowAt w a n V) (k : Below B w w') (hB : w.heap.size ≤ B) : RowAt w' a n V := by
  intro i hi
  obtain ⟨b, off, e, hb, hc⟩ := h i hi
  exact ⟨b, off, e, Nat.lt_of_lt_of_le hb k.size, (k.cell (p := ⟨b, off + i, none⟩) (Nat.lt_of_lt_of_le hb hB)).trans hc⟩
theorem info_tc : (Tryz.prog.info? 37).map (fun i => (i.zero, i.size, i.bytes)) = some (some (.agg #[.int .i64 0, .int .i64 0, .bool false, .bool false, .int .i64 0, .string ⟨#[]⟩]), 6, 48) := by kernel_rfl
theorem info_u32 : (Tryz.prog.info? 41).map (fun i => (i.zero, i.size, i.bytes)) = some (some (.int .u32 0), 1, 4) := by kernel_rfl
theorem tcRow_cons (x : Tc) (l : List Tc) : tcRow (x :: l) = x.cells ++ tcRow l := by simp [tcRow]
theorem tcRow_snoc (l : List Tc) (x : Tc) : tcRow (l ++ [x]) = tcRow l ++ x.cells := by simp [tcRow]
theorem u32Row_snoc (l : List Nat) (x : Nat) : u32Row (l ++ [x]) = u32Row l ++ [.int .u32 (x : Int)] := by simp [u32Row]
theorem tc_tail {w : World} {v : Value} {x : Tc} {l : List Tc} (h : QRow w 0 37 6 v (l.length + 1) (tcRow (x :: l))) :
    ∃ v', (∀ W, (Instr.slice 34 v (some (.int .i64 1)) none none).run Tryz.prog W = .ok v' W) ∧ QRow w 0 37 6 v' l.length (tcRow l) ∧ v'.ownBlock = v.ownBlock := by
  obtain ⟨i0, hi, hz0, hz1, hz2⟩ := info_parts info_tc
  obtain ⟨v', h1, h2, h3⟩ := q_from 34 i0 Tryz.underlying34 hi hz1 h .i64 1 (by omega)
  exact ⟨v', h1, by simpa [tcRow_cons, Tc.cells] using h2, h3⟩
theorem st_tail {w : World} {v : Value} {x : ByteArray} {l : List ByteArray} (h : QRow w 0 9 1 v (l.length + 1) (stRow (x :: l))) :
    ∃ v', (∀ W, (Instr.slice 33 v (some (.int .i64 1)) none none).run Tryz.prog W = .ok v' W) ∧ QRow w 0 9 1 v' l.length (stRow l) ∧ v'.ownBlock = v.ownBlock := by
  obtain ⟨i0, hi, hz0, hz1, hz2⟩ := info_parts info_s1
  obtain ⟨v', h1, h2, h3⟩ := q_from 33 i0 Tryz.underlying33 hi hz1 h .i64 1 (by omega)
  exact ⟨v', h1, by simpa [stRow] using h2, h3⟩
theorem u32_tail {w : World} {v : Value} {x : Nat} {l : List Nat} (h : QRow w 0 41 1 v (l.length + 1) (u32Row (x :: l))) :
    ∃ v', (∀ W, (Instr.slice 35 v (some (.int .i64 1)) none none).run Tryz.prog W = .ok v' W) ∧ QRow w 0 41 1 v' l.length (u32Row l) ∧ v'.ownBlock = v.ownBlock := by
  obtain ⟨i0, hi, hz0, hz1, hz2⟩ := info_parts info_u32
  obtain ⟨v', h1, h2, h3⟩ := q_from 35 i0 Tryz.underlying35 hi hz1 h .i64 1 (by omega)
  exact ⟨v', h1, by simpa [u32Row] using h2, h3⟩
def flipsL (F : List Int) (u : List UInt8) : List UInt8 := F.foldl flipOf u
theorem flipAt_len (l : List UInt8) (k : Nat) : (flipAt l k).length = l.length := by simp [flipAt]
theorem flipOf_hd (l : List UInt8) (n : Int) : (flipOf l n).length = l.length ∧ hd l (flipOf l n) ≤ 1 := by
  unfold flipOf
  split
  · rename_i e; subst e; exact ⟨rfl, by rw [hd_self]; omega⟩
  · rename_i e
    have hl : 0 < l.length := List.length_pos_iff.2 e
    have h1 := Int.emod_nonneg n (show ((8 * l.length : Nat) : Int) ≠ 0 by omega)
    have h2 := Int.emod_lt_of_pos n (show (0 : Int) < ((8 * l.length : Nat) : Int) by omega)
    refine ⟨flipAt_len _ _, ?_⟩
    rw [hd_flip l _ (by omega)]
    omega
theorem flipsL_hd (F : List Int) : ∀ u : List UInt8, (flipsL F u).length = u.length ∧ hd u (flipsL F u) ≤ F.length := by
  induction F with
  | nil => intro u; exact ⟨rfl, by show hd u u ≤ 0; rw [hd_self]; omega⟩
  | cons n F ih =>
    intro u
    obtain ⟨h1, h2⟩ := flipOf_hd u n
    obtain ⟨h3, h4⟩ := ih (flipOf u n)
    have e : flipsL (n :: F) u = flipsL F (flipOf u n) := rfl
    rw [e]
    refine ⟨h3.trans h1, ?_⟩
    have := hd_tri u (flipOf u n) (flipsL F (flipOf u n)) h1.symm h3.symm
    simp only [List.length_cons]
    omega
theorem flipsL_snoc (F : List Int) (n : Int) (u : List UInt8) : flipsL (F ++ [n]) u = flipOf (flipsL F u) n := by simp [flipsL]
end
section
open Go.RowKit
/-- A call of a method that gives events, with what is known of their row. -/
theorem Fx.callG {w W : World} {g : Nat} {R : List Nat} {s : Fs} (h : Fx w W g R s) : ∃ S1, FopIn W g S1 s ∧ (∀ i ∈ S1, i < W.heap.size) ∧
    (∀ {W' s' S' l v}, Pt W W' g S1 S' s' → Given W W' S1 S' l v → Fx w W' g R s' ∧ QRow W' 0 83 3 v l.length (evRow l) ∧ (∀ r ∈ R, W'.heap[r]? = W.heap[r]?) ∧ ∀ r ∈ R, v.ownBlock ≠ some r) := by
  obtain ⟨S1, h1, h2, h3⟩ := h
  refine ⟨S1, h1.in_, h2, fun {W' s' S' l v} k1 k2 => ?_⟩
  obtain ⟨S3, l1, l2, l3⟩ := k1.in_.small
  have hn : ∀ x ∈ S3, x ∈ ([] : List Nat) ∨ w.heap.size ≤ x := fun x hx => by
    rcases k1.new x (l3 x hx) with e | e
    · exact h1.new x e
    · exact .inr (Nat.le_trans h1.keep.size e)
  refine ⟨⟨S3, ⟨l1, h1.keep.trans_new k1.keep h1.new, hn⟩, l2, fun r hr => ?_⟩, k2.1, fun r hr => k1.keep.block r (h3 r hr).2.1 (h3 r hr).2.2, fun r hr he => ?_⟩
  · refine ⟨(h3 r hr).1, Nat.lt_of_lt_of_le (h3 r hr).2.1 k1.keep.size, fun hm => ?_⟩
    rcases k1.new r (l3 r hm) with e | e
    · exact (h3 r hr).2.2 e
    · have := (h3 r hr).2.1; omega
  · rcases (k2.2 r he).2 with e | e
    · exact (h3 r hr).2.2 e
    · have := (h3 r hr).2.1; omega
/-- Are two frames different? -/
def tcNe (a b : Tc) : Bool := !decide (a = b)
theorem tcNe_same {a b : Tc} (h : a = b) : tcNe a b = false := by unfold tcNe; simp [h]
theorem tcNe_diff {a b : Tc} (h : a ≠ b) : tcNe a b = true := by unfold tcNe; simp [h]
theorem neqTc (a1 a2 : Int) (a3 a4 : Bool) (a5 : Int) (a6 : ByteArray) (b1 b2 : Int) (b3 b4 : Bool) (b5 : Int) (b6 : ByteArray) (w : World) :
    (binOp .neq 37 (.agg #[.int .i64 a1, .int .i64 a2, .bool a3, .bool a4, .int .i64 a5, .string a6]) (.agg #[.int .i64 b1, .int .i64 b2, .bool b3, .bool b4, .int .i64 b5, .string b6])).run Tryz.prog w = .ok (.bool (tcNe ⟨a1, a2, a3, a4, a5, a6⟩ ⟨b1, b2, b3, b4, b5, b6⟩)) w := by
  have u3 := Tryz.underlying3
  have u4 := Tryz.underlying4
  have u9 := Tryz.underlying9
  have hS : Tryz.prog.underlying 37 = some (.struct (Tryz.prog.fieldsOf 37)) := by kernel_rfl
  have hp : Tryz.prog.stoodInHeld 37 = false := by kernel_rfl
  have a3' := Tryz.isAgg3
  have a4' := Tryz.isAgg4
  have a9' := Tryz.isAgg9
  have z3 := Tryz.sizeOf3
  have z4 := Tryz.sizeOf4
  have z9 := Tryz.sizeOf9
  have e6 : (a6.toList = b6.toList) = (a6 = b6) := propext ⟨fun h => ByteArray.ext (Array.toList_inj.1 (by rw [toList_data, toList_data] at h; exact h)), fun h => by rw [h]⟩
  unfold tcNe
  rw [run_neq_struct, show (10000 : Nat) = 9999 + 1 from rfl, run_equalIn_agg w 9999 37 _ _ hS hp]
  simp only [Program.fieldsOf, Tryz.underlying37]
  go_simp
  by_cases h1 : a1 = b1 <;> by_cases h2 : a2 = b2 <;> by_cases h3 : a3 = b3 <;> by_cases h4 : a4 = b4 <;> by_cases h5 : a5 = b5 <;> by_cases h6 : a6 = b6 <;> simp [h1, h2, h3, h4, h5, h6, e6]
theorem guardTc : Tryz.prog.eqGuardType Tryz.prog.depth 37 = false := by kernel_rfl
theorem front_cases (D : ByteArray) : (∃ e, e ≠ 0 ∧ frontT D = none ∧ frontV D = front3 Tc.zero 0 e) ∨ ∃ y n, frontT D = some y ∧ frontV D = front3 y n 0 := by
  unfold frontT frontV
  by_cases h : D.size < 5 ∨ D.size < frontN D
  · rw [if_pos h, if_pos h]
    exact .inl ⟨6, by decide, rfl, rfl⟩
  · rw [if_neg h, if_neg h]
    by_cases h2 : (getP (D.extract 0 (frontN D))).2 = 0
    · rw [if_pos h2, if_pos h2]
      exact .inr ⟨_, _, rfl, rfl⟩
    · rw [if_neg h2, if_neg h2]
      exact .inl ⟨_, h2, rfl, rfl⟩
end
end Go.Proofs.YtgopighmifpefaaGreatDoor
