/- What is proved here: the control frame that is due; a control word while the service begins. -/
import Derived.Test.YtbncejmohhejlaaBg1
import Derived.Test.YtbncejmohhejlaaT5
import Derived.Deep.RegionHeld3
set_option linter.unusedVariables false
set_option linter.unusedSimpArgs false
namespace Go.Proofs.Ytbncejmohhejlaa
open Go.RowKit
section
variable (s : Fs) (g : Nat) (S : List Nat) (w : World)
set_option maxHeartbeats 8000000 in
set_option maxRecDepth 100000 in
theorem Word_start (n : Nat) (s2 : Fs) (xc xb xn : Int) (xl xw xr : Bool) (hn : n < 4294967296) (hv : readV n = .tuple #[.agg #[.int .i64 xc, .bool xl, .bool xw, .bool xr, .int .i64 xb, .int .i64 xn], .int .i64 0]) (hc : xc = s.chan) (hs : s.service = 1)
    (hpo : ∀ (S1 : List Nat) (W : World), (∀ i ∈ S1, i < W.heap.size) → FopIn W g S1 s → Calls Try.prog 45 #[.pointer (some ⟨g, 0, none⟩), .agg #[.int .i64 xc, .bool xl, .bool xw, .bool xr, .int .i64 xb, .int .i64 xn]] W fun e w' => e = .returned (.tuple #[]) ∧ FopTo W w' g S1 s2) (hw : s.window ≠ 0) (hSl : ∀ i ∈ S, i < w.heap.size) (h : FopIn w g S s) :
    Calls Try.prog 15 #[.pointer (some ⟨g, 0, none⟩), .int .u32 n] w fun e w' => ∃ v S', e = .returned (.tuple #[v, .int .i64 0]) ∧ Pt w w' g S S' { s2 with events := [] } ∧ Given w w' S S' s2.events v := by
  have hcc : (xc != s.chan) = false := by simp [hc]
  have HPO := Lib.hid hpo
  clear hc hpo
  have HN := Lib.hid (foNone_in s g S w false (by simpa using hw) h)
  have HT := Lib.hid (Pt.refl h)
  have HRD := Lib.hid (ReadWord_any n w hn)
  rw [hv] at HRD
  have HSL := Lib.hid hSl
  clear h hw hv hSl
  go_enter Try.func15, Try.ntmps15
  go_wp2_with fail
  refine (HN.out).mono ?_
  rintro e _ ⟨rfl, rfl⟩
  go_wp2_with fail
  refine HRD.out.mono ?_
  rintro e w1 ⟨rfl, hL⟩
  replace HT := Lib.hid (HT.out.keepB hL)
  clear hL HRD HN
  have hlw : w.heap.size ≤ w1.heap.size := HT.out.keep.size
  obtain ⟨r, hr⟩ : ∃ r, r = w1.heap.size := ⟨_, rfl⟩
  go_upto_region 6 with fail
  rw [← hr]
  refine gen_world (fun W => Pt w W g S S s ∧ Blk W r [.int .i64 xc, .bool xl, .bool xw, .bool xr, .int .i64 xb, .int .i64 xn] 35 ∧ w.heap.size ≤ r) ⟨HT.out.keepB ((Below.refl _ _).alloc (Nat.le_refl _) _), by rw [hr]; exact Blk.new w1 [.int .i64 xc, .bool xl, .bool xw, .bool xr, .int .i64 xb, .int .i64 xn] 35, by omega⟩ ?_
  clear HT hr hlw
  rintro w2 ⟨hT, hX, hwr⟩
  have HT := Lib.hid hT; have HX := Lib.hid hX; clear hT hX
  obtain ⟨ve, vw, vs, vb, hF, hS⟩ := HT.out.in_
  have HF := Lib.hid hF; have HS := Lib.hid hS; have HB := Lib.hid hF.blk; clear hF hS
  have c2 := HB.out.cell 2
  simp only [Fs.cells, List.getElem?_cons_zero, List.getElem?_cons_succ] at c2
  have x0 := HX.out.cell 0
  have x1 := HX.out.cell 1
  have x2 := HX.out.cell 2
  have x3 := HX.out.cell 3
  have x4 := HX.out.cell 4
  have x5 := HX.out.cell 5
  simp only [List.getElem?_cons_zero, List.getElem?_cons_succ] at x0 x1 x2 x3 x4 x5
  go_quiet (fail)
  clear c2 x0 x1 x2 x3 x4 x5
  refine post_any (fun W => Pt w W g S S s ∧ Blk W r [.int .i64 xc, .bool xl, .bool xw, .bool xr, .int .i64 xb, .int .i64 xn] 35) ⟨HT.out.drewN _, HX.out.drewN _⟩ ?_
  clear HT HX HF HS HB
  rintro w3 ⟨hT, hX⟩
  have HT := Lib.hid hT; have HX := Lib.hid hX; clear hT hX
  obtain ⟨ve, vw, vs, vb, hF, hS⟩ := HT.out.in_
  have HF := Lib.hid hF; have HS := Lib.hid hS; have HB := Lib.hid hF.blk; clear hF hS
  have c6 := HB.out.cell 6
  simp only [Fs.cells, List.getElem?_cons_zero, List.getElem?_cons_succ] at c6
  rw [hs] at c6
  obtain ⟨b, hb⟩ : ∃ b, w3.heap.size = b := ⟨_, rfl⟩
  have m0 := fmap_made w3 b hb
  have m1 := fmap_ins w3 #[] 0 1 (fnV 45 g) rfl b hb
  have m2 := fmap_ins w3 #[{ key := .int .i64 1, val := fnV 45 g, born := 0 }] 1 2 (fnV 46 g) (by kernel_rfl) b hb
  have m3 := fmap_look g (w3.alloc (.map (wordMap g) 2)) b 1 (45) 0 (by rw [← hb]; exact heap_alloc_new w3 _) (by kernel_rfl)
  have x6 := (HB.out.alloc (.map (wordMap g) 2)).cell 6
  simp only [Fs.cells, List.getElem?_cons_zero, List.getElem?_cons_succ] at x6
  rw [hs] at x6
  simp only [List.push_toArray, List.cons_append, List.nil_append, Nat.reduceAdd, fnV, wordMap] at m1 m2 m3 x6
  have hX2 := HX.out.alloc (.map (wordMap g) 2)
  have y0 := hX2.cell 0; have y1 := hX2.cell 1; have y2 := hX2.cell 2; have y3 := hX2.cell 3; have y4 := hX2.cell 4; have y5 := hX2.cell 5
  simp only [List.getElem?_cons_zero, List.getElem?_cons_succ, fnV, wordMap] at y0 y1 y2 y3 y4 y5
  have HT4 := Lib.hid (HT.out.keepB ((Below.refl _ _).alloc (Nat.le_refl _) (.map (wordMap g) 2)))
  have hsl3 : ∀ i ∈ S, i < (w3.alloc (.map (wordMap g) 2)).heap.size := fun i hi => by have := HSL.out i hi; have := HT.out.keep.size; simp; omega
  have HS4 := Lib.hid hsl3
  clear hX2 hsl3
  go_wp2_with fail
  refine (HPO.out S _ HS4.out HT4.out.in_).mono ?_
  rintro e w4 ⟨rfl, hT⟩
  obtain ⟨S1, hT⟩ := HT4.out.trans hT
  replace HT := Lib.hid hT
  clear hT HT4 HS4 y0 y1 y2 y3 y4 y5 m0 m1 m2 m3 x6 c6 HF HS HB HX hb
  go_wp2_with fail
  refine (reported_in _ g _ _ HT.out.in_).mono ?_
  rintro e w5 ⟨v, S2, rfl, hP, hG⟩
  have HP := Lib.hid hP; have HG := Lib.hid hG; clear hP hG
  go_wp2_with fail
  go_ret2
  exact ⟨_, S2, rfl, HT.out.thenPt HP.out, HT.out.thenGiven HG.out⟩
section
variable {P : Program} {ops : Array Oper} {Q : Exit → Act → World → Prop} {md : Region.Mode} {S : World → Prop}
theorem heldTake {i : Nat} (d : Option Tmp) {oi : Oper} {v : Value} {fuel : Nat} {listed : Array Bool} {a : Act} {w : World} (hi : ops[i]? = some oi) (hd : oi.dst = d) (hs : Region.noSelect ops = true) (hf : Region.free md ops listed i = true)
    (hr : (Region.ready md ops listed).contains i = true) (hQ : ∀ c a w, Q (.panic c) (a.put d v) w → Q (.panic c) a w) (hw : Region.wanted oi (yielded ops a.tmps) = true) (hS : S w) (hy : ∀ w, S w → (execOp a.eval oi).run P w = .ok (.value v) w)
    (h : wpAnyH P md ops Q S fuel (listed.setIfInBounds i true) (a.put d v) w) : wpAnyH P md ops Q S (fuel + 1) listed a w := by
  subst hd
  exact wpAnyH_take hi hs hf hr hQ (.inl ⟨hw, hy⟩) hS h
theorem heldCons {i : Nat} (d : Option Tmp) {o : Oper} {fuel : Nat} {listed : Array Bool} {a : Act} {w : World} {rs : List Nat} (ho : ops[i]? = some o) (hd : o.dst = d)
    (h : ∀ K' : Act → World → Prop, Shut (∀ u v, S v → (S v → wpAnyH P md ops Q S fuel (listed.setIfInBounds i true) (a.put d u) v) → K' (a.put o.dst u) v) → if Region.wanted o (yielded ops a.tmps) = true then Oper.wp P o a w K' Q else K' (a.put o.dst undef) w)
    (hs : AllReadyH P md ops Q S fuel listed a w rs) : AllReadyH P md ops Q S fuel listed a w (i :: rs) := by
  subst hd
  exact AllReadyH.cons ho (fun K' hK => h K' (fun u v h1 h2 => hK _ v h1 h2)) hs
end
/-- The frame that is due. -/
theorem unlock_frame : Tc.madeV 1 2 ⟨#[0]⟩ = .tuple #[.agg #[.int .i64 1, .int .i64 2, .bool true, .bool true, .int .i64 0, .string ⟨#[0]⟩], .int .i64 0] := by kernel_rfl
theorem set_frame (n : Int) (h0 : 0 ≤ n) (h1 : n ≤ 255) : setNextV 1 2 n = .tuple #[.agg #[.int .i64 1, .int .i64 2, .bool true, .bool true, .int .i64 0, .string (snData n)], .int .i64 0] := by
  have hg : (Tc.ctlOf 1 2 (snData n)).good = true := by
    rw [Tc.good_iff]
    refine ⟨?_, rfl⟩
    show (0 : Int) ≤ 1 ∧ (1 : Int) ≤ 255 ∧ (0 : Int) ≤ 0 ∧ (0 : Int) ≤ 255 ∧ (0 : Int) ≤ 2 ∧ (2 : Int) ≤ 7 ∧ 1 ≤ 3 ∧ 3 ≤ 200
    omega
  unfold setNextV Tc.madeV
  rw [if_pos ⟨h0, h1⟩, if_pos hg]
  rfl
set_option maxHeartbeats 8000000 in
set_option maxRecDepth 100000 in
theorem Next_unlock (hSl : ∀ i ∈ S, i < w.heap.size) (hcr : s.craft = 1) (hch : s.chan = 2) (hhow : s.how = 3) (hdue : s.due = true) (hsp : s.susp = false) (hw : s.window ≠ 0) (h : FopIn w g S s) :
    Calls Try.prog 13 #[.pointer (some ⟨g, 0, none⟩)] w fun e w' => e = .returned (.tuple #[.agg #[.int .i64 1, .int .i64 2, .bool true, .bool true, .int .i64 0, .string ⟨#[0]⟩], .bool true]) ∧ FopTo w w' g S { s with due := false, given := true } := by
  have HW0 := Lib.hid (show (s.window == 0) = false by simpa using hw)
  have HT := Lib.hid ((Pt.refl h).keepB ((Below.refl w.heap.size w).alloc (Nat.le_refl _) (Obj.cells #[.int .i64 0, .int .i64 0, .bool false, .bool false, .int .i64 0, .string ⟨#[]⟩] 31)))
  have HR := Lib.hid (Blk.new w [.int .i64 0, .int .i64 0, .bool false, .bool false, .int .i64 0, .string ⟨#[]⟩] 31)
  have HSL := Lib.hid hSl
  have HU := Lib.hid (fun W => (by rw [← unlock_frame]; exact Unlock_any 1 2 W : Calls Try.prog 36 #[.int .i64 1, .int .i64 2] W fun e w' => e = .returned (.tuple #[.agg #[.int .i64 1, .int .i64 2, .bool true, .bool true, .int .i64 0, .string ⟨#[0]⟩], .int .i64 0]) ∧ Below W.heap.size W w'))
  clear h hw hSl
  go_enter Try.func13, Try.ntmps13
  go_upto_region 1 with fail
  refine gen_world (fun W => Pt w W g S S s ∧ Blk W w.heap.size [.int .i64 0, .int .i64 0, .bool false, .bool false, .int .i64 0, .string ⟨#[]⟩] 31) ⟨HT.out, HR.out⟩ ?_
  clear HT HR
  rintro w1 ⟨hT, hR⟩
  have HT := Lib.hid hT; have HR := Lib.hid hR; clear hT hR
  go_wp2_with fail
  refine (foNone_in s g S _ false HW0.out HT.out.in_).mono ?_
  rintro e _ ⟨rfl, rfl⟩
  obtain ⟨ve, vw, vs, vb, hF, hS⟩ := HT.out.in_
  have HF := Lib.hid hF; have HS := Lib.hid hS; have HB := Lib.hid hF.blk; clear hF hS
  have c16 := HB.out.cell 16
  have c17 := HB.out.cell 17
  have c19 := HB.out.cell 19
  have f16 := HB.out.free 16
  have f17 := HB.out.free 17
  simp only [Fs.cells, List.getElem?_cons_zero, List.getElem?_cons_succ] at c16 c17 c19
  rw [hdue] at c16
  rw [hsp] at c19
  clear hdue hsp
  go_upto_region 5 with fail
  have hgr : w.heap.size ≠ g := fun e => by
    have := HSL.out g (HS.out _ (mem_own.2 (.inl rfl)))
    omega
  refine gen_world (fun W => Pt w W g S S { s with due := false, given := true } ∧ Blk W w.heap.size [.int .i64 0, .int .i64 0, .bool false, .bool false, .int .i64 0, .string ⟨#[]⟩] 31) ⟨HT.out.upd (s' := { s with due := false, given := true }) HF.out HS.out ((HB.out.set 16 (.bool false)).set 17 (.bool true)) (((Keep.refl [g] _).setCell (.inl (by simp)) _).setCell (.inl (by simp)) _) rfl rfl rfl rfl, (HR.out.set_far (p := ⟨g, 16, none⟩) hgr _).set_far (p := ⟨g, 17, none⟩) hgr _⟩ ?_
  clear HF HS HB c16 c17 c19 f16 f17
  clear HT HR
  rintro w2 ⟨hT, hR⟩
  have HT := Lib.hid hT; have HR := Lib.hid hR; clear hT hR
  obtain ⟨ve, vw, vs, vb, hF, hS⟩ := HT.out.in_
  have HF := Lib.hid hF; have HS := Lib.hid hS; have HB := Lib.hid hF.blk; clear hF hS
  have c1 := HB.out.cell 1
  have c2 := HB.out.cell 2
  simp only [Fs.cells, List.getElem?_cons_zero, List.getElem?_cons_succ] at c1 c2
  rw [hcr] at c1
  rw [hch] at c2
  have e1 := (HB.out.alloc (Obj.cells #[.int .i64 0, .int .i64 0, .bool false, .bool false, .int .i64 0, .string ⟨#[]⟩] 31)).cell 1; have e2 := (HB.out.alloc (Obj.cells #[.int .i64 0, .int .i64 0, .bool false, .bool false, .int .i64 0, .string ⟨#[]⟩] 31)).cell 2
  simp only [Fs.cells, List.getElem?_cons_zero, List.getElem?_cons_succ] at e1 e2
  rw [hcr] at e1
  rw [hch] at e2
  go_cut [4] (fun p4 W2 => ∃ b, p4 = .pointer (some ⟨b, 0, none⟩) ∧ w2.heap.size ≤ b ∧ Below w2.heap.size w2 W2 ∧ Blk W2 b [.int .i64 1, .int .i64 2, .bool true, .bool true, .int .i64 0, .string ⟨#[0]⟩] 31)
  case first =>
    refine region_end (fun W => W.cell? ⟨g, 1, none⟩ = some (.int .i64 1) ∧ W.cell? ⟨g, 2, none⟩ = some (.int .i64 2)) 14 (by kernel_rfl) ⟨c1, c2⟩ (fun hInv hHeld => ?_)
    have hgl : g < w2.heap.size := HB.out.lt
    refine WpEnd.take (i := 0) (some 31) (v := ?_) rfl rfl (by kernel_rfl) (by kernel_rfl) (by kernel_rfl) (fun _ _ _ h => h) (by kernel_rfl) hInv (by assumption) (by rfl) ?_ (fun hInv2 => ?_)
    rotate_left
    · (intro w hSw; (try dsimp only at hSw); go_simp; (try with_reducible rfl))
    clear hInv; have hInv := hInv2; clear hInv2
    simp only [Act.put, List.setIfInBounds_toArray, List.set_cons_zero, List.set_cons_succ]
    refine WpEnd.take (i := 1) (some 32) (v := ?_) rfl rfl (by kernel_rfl) (by kernel_rfl) (by kernel_rfl) (fun _ _ _ h => h) (by kernel_rfl) hInv (by assumption) (by rfl) ?_ (fun hInv2 => ?_)
    rotate_left
    · (intro w hSw; (try dsimp only at hSw); go_simp; (try with_reducible rfl))
    clear hInv; have hInv := hInv2; clear hInv2
    simp only [Act.put, List.setIfInBounds_toArray, List.set_cons_zero, List.set_cons_succ]
    refine WpEnd.take (i := 2) (some 33) (v := ?_) rfl rfl (by kernel_rfl) (by kernel_rfl) (by kernel_rfl) (fun _ _ _ h => h) (by kernel_rfl) hInv (by assumption) (by rfl) ?_ (fun hInv2 => ?_)
    rotate_left
    · (intro w hSw; (try dsimp only at hSw); go_simp; (try with_reducible rfl))
    clear hInv; have hInv := hInv2; clear hInv2
    simp only [Act.put, List.setIfInBounds_toArray, List.set_cons_zero, List.set_cons_succ]
    refine WpEnd.take (i := 3) (some 34) (v := ?_) rfl rfl (by kernel_rfl) (by kernel_rfl) (by kernel_rfl) (fun _ _ _ h => h) (by kernel_rfl) hInv (by assumption) (by rfl) ?_ (fun hInv2 => ?_)
    rotate_left
    · (intro w hSw; (try dsimp only at hSw); go_simp; (try with_reducible rfl))
    clear hInv; have hInv := hInv2; clear hInv2
    simp only [Act.put, List.setIfInBounds_toArray, List.set_cons_zero, List.set_cons_succ]
    refine WpEnd.take (i := 4) (some 35) (v := ?_) rfl rfl (by kernel_rfl) (by kernel_rfl) (by kernel_rfl) (fun _ _ _ h => h) (by kernel_rfl) hInv (by assumption) (by rfl) ?_ (fun hInv2 => ?_)
    rotate_left
    · (intro w hSw; (try dsimp only at hSw); go_simp; (try with_reducible rfl))
    clear hInv; have hInv := hInv2; clear hInv2
    simp only [Act.put, List.setIfInBounds_toArray, List.set_cons_zero, List.set_cons_succ]
    refine WpEnd.take (i := 5) (some 36) (v := ?_) rfl rfl (by kernel_rfl) (by kernel_rfl) (by kernel_rfl) (fun _ _ _ h => h) (by kernel_rfl) hInv (by assumption) (by rfl) ?_ (fun hInv2 => ?_)
    rotate_left
    · (intro w hSw; (try dsimp only at hSw); go_simp; (try with_reducible rfl))
    clear hInv; have hInv := hInv2; clear hInv2
    simp only [Act.put, List.setIfInBounds_toArray, List.set_cons_zero, List.set_cons_succ]
    refine WpEnd.take (i := 6) (some 37) (v := ?_) rfl rfl (by kernel_rfl) (by kernel_rfl) (by kernel_rfl) (fun _ _ _ h => h) (by kernel_rfl) hInv (by assumption) (by rfl) ?_ (fun hInv2 => ?_)
    rotate_left
    · (intro w hSw; (try dsimp only at hSw); go_simp; (try with_reducible rfl))
    clear hInv; have hInv := hInv2; clear hInv2
    simp only [Act.put, List.setIfInBounds_toArray, List.set_cons_zero, List.set_cons_succ]
    refine WpEnd.take (i := 7) (some 38) (v := ?_) rfl rfl (by kernel_rfl) (by kernel_rfl) (by kernel_rfl) (fun _ _ _ h => h) (by kernel_rfl) hInv (by assumption) (by rfl) ?_ (fun hInv2 => ?_)
    rotate_left
    · (intro w hSw; (try dsimp only at hSw); go_simp; (try with_reducible rfl))
    clear hInv; have hInv := hInv2; clear hInv2
    simp only [Act.put, List.setIfInBounds_toArray, List.set_cons_zero, List.set_cons_succ]
    refine WpEnd.ready (rs := [8, 12]) (by kernel_rfl) (by simp) ?_
    refine EachEnd.cons (some 39) rfl rfl (by decide) (by kernel_rfl) hInv (fun K hKK hKB => ?_) (EachEnd.cons (some 4) rfl rfl (by decide) (by kernel_rfl) hInv (fun K hKK hKB => ?_) EachEnd.nil)
    · refine step_call rfl 36 #[.tmp 34, .tmp 38] _ rfl #[.int .i64 1, .int .i64 2] (by kernel_rfl) (fun x V => x = .tuple #[.agg #[.int .i64 1, .int .i64 2, .bool true, .bool true, .int .i64 0, .string ⟨#[0]⟩], .int .i64 0] ∧ Below w2.drew.heap.size w2.drew V) ((HU.out w2.drew).mono fun e V h => ⟨_, h.1, rfl, h.2⟩) ?_
      rintro x W3 ⟨rfl, hL⟩
      have hc := hHeld
      have d1 := (hL.cell (p := ⟨g, 1, none⟩) hgl).trans hc.1
      have d2 := (hL.cell (p := ⟨g, 2, none⟩) hgl).trans hc.2
      refine hKK.out _ _ ⟨d1, d2⟩ (fun hInv2 hHeld2 => ?_)
      clear hKK hKB K hInv hHeld hHeld2 hc
      have hInv := hInv2; clear hInv2
      have hHeld : W3.cell? ⟨g, 1, none⟩ = some (.int .i64 1) ∧ W3.cell? ⟨g, 2, none⟩ = some (.int .i64 2) := ⟨d1, d2⟩
      simp only [Act.put, List.setIfInBounds_toArray, List.set_cons_zero, List.set_cons_succ]
      refine WpEnd.take (i := 9) (some 30) (v := ?_) rfl rfl (by kernel_rfl) (by kernel_rfl) (by kernel_rfl) (fun _ _ _ h => h) (by kernel_rfl) hInv (by assumption) (by rfl) ?_ (fun hInv2 => ?_)
      rotate_left
      · (intro w hSw; (try dsimp only at hSw); go_simp; (try with_reducible rfl))
      clear hInv; have hInv := hInv2; clear hInv2
      simp only [Act.put, List.setIfInBounds_toArray, List.set_cons_zero, List.set_cons_succ]
      refine WpEnd.take (i := 10) (some 40) (v := ?_) rfl rfl (by kernel_rfl) (by kernel_rfl) (by kernel_rfl) (fun _ _ _ h => h) (by kernel_rfl) hInv (by assumption) (by rfl) ?_ (fun hInv2 => ?_)
      rotate_left
      · (intro w hSw; (try dsimp only at hSw); go_simp; (try with_reducible rfl))
      clear hInv; have hInv := hInv2; clear hInv2
      simp only [Act.put, List.setIfInBounds_toArray, List.set_cons_zero, List.set_cons_succ]
      refine WpEnd.take (i := 11) (some 41) (v := ?_) rfl rfl (by kernel_rfl) (by kernel_rfl) (by kernel_rfl) (fun _ _ _ h => h) (by kernel_rfl) hInv (by assumption) (by rfl) ?_ (fun hInv2 => ?_)
      rotate_left
      · (intro w hSw; (try dsimp only at hSw); go_simp; (try with_reducible rfl))
      clear hInv; have hInv := hInv2; clear hInv2
      simp only [Act.put, List.setIfInBounds_toArray, List.set_cons_zero, List.set_cons_succ]
      refine WpEnd.ready (rs := [12]) (by kernel_rfl) (by simp) ?_
      refine EachEnd.cons (some 4) rfl rfl (by decide) (by kernel_rfl) hInv (fun K hKK hKB => ?_) EachEnd.nil
      have hz := Blk.new W3 [.int .i64 0, .int .i64 0, .bool false, .bool false, .int .i64 0, .string ⟨#[]⟩] 31
      have g1 := (((Below.refl W3.heap.size W3).alloc (Nat.le_refl _) (Obj.cells #[.int .i64 0, .int .i64 0, .bool false, .bool false, .int .i64 0, .string ⟨#[]⟩] 31)).cell (p := ⟨g, 1, none⟩) (Nat.lt_of_lt_of_le hgl hL.size)).trans d1
      have g2 := (((Below.refl W3.heap.size W3).alloc (Nat.le_refl _) (Obj.cells #[.int .i64 0, .int .i64 0, .bool false, .bool false, .int .i64 0, .string ⟨#[]⟩] 31)).cell (p := ⟨g, 2, none⟩) (Nat.lt_of_lt_of_le hgl hL.size)).trans d2
      go_simp
      refine hKB.out _ _ ⟨g1, g2⟩ (fun hInv2 hHeld2 => ?_)
      clear hKK hKB K hInv hHeld hHeld2
      have hInv := hInv2; clear hInv2
      have hL2 : Below w2.heap.size w2 (W3.alloc (Obj.cells #[.int .i64 0, .int .i64 0, .bool false, .bool false, .int .i64 0, .string ⟨#[]⟩] 31)) := (((Below.refl _ w2).drew).trans hL).alloc hL.size _
      obtain ⟨b, hb⟩ : ∃ b, b = W3.heap.size := ⟨_, rfl⟩
      obtain ⟨W4, hW4⟩ : ∃ W4, W4 = W3.alloc (Obj.cells #[.int .i64 0, .int .i64 0, .bool false, .bool false, .int .i64 0, .string ⟨#[]⟩] 31) := ⟨_, rfl⟩
      have hbl : w2.heap.size ≤ b := by rw [hb]; exact hL.size
      rw [← hb, ← hW4] at hz
      rw [← hW4] at hL2 g1 g2
      rw [← hb, ← hW4]
      clear hb hW4 hL d1 d2
      refine WpEnd.ready (rs := [13]) (by kernel_rfl) (by simp) ?_
      refine EachEnd.cons none rfl rfl (by decide) (by kernel_rfl) hInv (fun K hKK hKB => ?_) EachEnd.nil
      refine step_store_blk rfl 31 (.tmp 4) (.tmp 40) rfl b 31 _ [.int .i64 1, .int .i64 2, .bool true, .bool true, .int .i64 0, .string ⟨#[0]⟩] rfl rfl hz rfl (by kernel_rfl) (by kernel_rfl) ?_
      intro W5 hR5 hK5
      have hgb : g ∉ [b] := fun hm => by simp at hm; omega
      have i1 := (hK5.cell (p := ⟨g, 1, none⟩) (World.block_lt_of_cell? _ _ g1) hgb).trans g1
      have i2 := (hK5.cell (p := ⟨g, 2, none⟩) (World.block_lt_of_cell? _ _ g2) hgb).trans g2
      refine hKK.out _ _ ⟨i1, i2⟩ (fun hInv2 hHeld2 => ?_)
      clear hKK hKB K hInv
      have hInv := hInv2; clear hInv2
      simp only [Act.put, List.setIfInBounds_toArray, List.set_cons_zero, List.set_cons_succ]
      refine WpEnd.ready (rs := [14]) (by kernel_rfl) (by simp) ?_
      refine EachEnd.last rfl (fun K hKK => ?_)
      go_simp
      refine hKK.out _ _ ?_
      clear hKK K
      refine WpEnd.done (by kernel_rfl) ?_ _
      go_wp2_with fail
      go_meet
      exact ⟨b, (by first | rfl | (rw [hb])), hbl, hL2.trans (hK5.toBelowAt hL2.size (fun i hi => by simp at hi; subst hi; exact hbl)), hR5⟩
    · have hz := Blk.new w2 [.int .i64 0, .int .i64 0, .bool false, .bool false, .int .i64 0, .string ⟨#[]⟩] 31
      have g1 := (((Below.refl w2.heap.size w2).alloc (Nat.le_refl _) (Obj.cells #[.int .i64 0, .int .i64 0, .bool false, .bool false, .int .i64 0, .string ⟨#[]⟩] 31)).cell (p := ⟨g, 1, none⟩) hgl).trans hHeld.1
      have g2 := (((Below.refl w2.heap.size w2).alloc (Nat.le_refl _) (Obj.cells #[.int .i64 0, .int .i64 0, .bool false, .bool false, .int .i64 0, .string ⟨#[]⟩] 31)).cell (p := ⟨g, 2, none⟩) hgl).trans hHeld.2
      go_simp
      refine hKB.out _ _ ⟨g1, g2⟩ (fun hInv2 hHeld2 => ?_)
      clear hKK hKB K hInv hHeld
      have hInv := hInv2; clear hInv2
      have hL1 : Below w2.heap.size w2 (w2.alloc (Obj.cells #[.int .i64 0, .int .i64 0, .bool false, .bool false, .int .i64 0, .string ⟨#[]⟩] 31)).drew := ((Below.refl _ w2).alloc (Nat.le_refl _) _).drew
      have hz1 : Blk (w2.alloc (Obj.cells #[.int .i64 0, .int .i64 0, .bool false, .bool false, .int .i64 0, .string ⟨#[]⟩] 31)).drew w2.heap.size [.int .i64 0, .int .i64 0, .bool false, .bool false, .int .i64 0, .string ⟨#[]⟩] 31 := hz.drew
      obtain ⟨b, hb⟩ : ∃ b, b = w2.heap.size := ⟨_, rfl⟩
      obtain ⟨W3, hW3⟩ : ∃ W3, W3 = (w2.alloc (Obj.cells #[.int .i64 0, .int .i64 0, .bool false, .bool false, .int .i64 0, .string ⟨#[]⟩] 31)).drew := ⟨_, rfl⟩
      have hbl : w2.heap.size ≤ b := Nat.le_of_eq hb.symm
      have hHeld : W3.cell? ⟨g, 1, none⟩ = some (.int .i64 1) ∧ W3.cell? ⟨g, 2, none⟩ = some (.int .i64 2) := by rw [hW3]; exact hHeld2
      rw [← hW3] at hz1 hL1 ⊢
      rw [← hb] at hz1 ⊢
      clear hz g1 g2 hHeld2 hW3
      refine WpEnd.ready (rs := [8]) (by kernel_rfl) (by simp) ?_
      refine EachEnd.cons (some 39) rfl rfl (by decide) (by kernel_rfl) hInv (fun K hKK hKB => ?_) EachEnd.nil
      refine step_call rfl 36 #[.tmp 34, .tmp 38] _ rfl #[.int .i64 1, .int .i64 2] (by kernel_rfl) (fun x V => x = .tuple #[.agg #[.int .i64 1, .int .i64 2, .bool true, .bool true, .int .i64 0, .string ⟨#[0]⟩], .int .i64 0] ∧ Below W3.heap.size W3 V) ((HU.out W3).mono fun e V h => ⟨_, h.1, rfl, h.2⟩) ?_
      rintro x W4 ⟨rfl, hL⟩
      have g1 := (hL.cell (p := ⟨g, 1, none⟩) (World.block_lt_of_cell? _ _ hHeld.1)).trans hHeld.1
      have g2 := (hL.cell (p := ⟨g, 2, none⟩) (World.block_lt_of_cell? _ _ hHeld.2)).trans hHeld.2
      have hz := hz1.below hL hz1.lt
      have hL2 := hL1.trans (hL.mono hL1.size)
      refine hKK.out _ _ ⟨g1, g2⟩ (fun hInv2 hHeld2 => ?_)
      clear hKK hKB K hInv hHeld hHeld2 hz1 hL hL1
      have hInv := hInv2; clear hInv2
      have hHeld : W4.cell? ⟨g, 1, none⟩ = some (.int .i64 1) ∧ W4.cell? ⟨g, 2, none⟩ = some (.int .i64 2) := ⟨g1, g2⟩
      simp only [Act.put, List.setIfInBounds_toArray, List.set_cons_zero, List.set_cons_succ]
      refine WpEnd.take (i := 9) (some 30) (v := ?_) rfl rfl (by kernel_rfl) (by kernel_rfl) (by kernel_rfl) (fun _ _ _ h => h) (by kernel_rfl) hInv (by assumption) (by rfl) ?_ (fun hInv2 => ?_)
      rotate_left
      · (intro w hSw; (try dsimp only at hSw); go_simp; (try with_reducible rfl))
      clear hInv; have hInv := hInv2; clear hInv2
      simp only [Act.put, List.setIfInBounds_toArray, List.set_cons_zero, List.set_cons_succ]
      refine WpEnd.take (i := 10) (some 40) (v := ?_) rfl rfl (by kernel_rfl) (by kernel_rfl) (by kernel_rfl) (fun _ _ _ h => h) (by kernel_rfl) hInv (by assumption) (by rfl) ?_ (fun hInv2 => ?_)
      rotate_left
      · (intro w hSw; (try dsimp only at hSw); go_simp; (try with_reducible rfl))
      clear hInv; have hInv := hInv2; clear hInv2
      simp only [Act.put, List.setIfInBounds_toArray, List.set_cons_zero, List.set_cons_succ]
      refine WpEnd.take (i := 11) (some 41) (v := ?_) rfl rfl (by kernel_rfl) (by kernel_rfl) (by kernel_rfl) (fun _ _ _ h => h) (by kernel_rfl) hInv (by assumption) (by rfl) ?_ (fun hInv2 => ?_)
      rotate_left
      · (intro w hSw; (try dsimp only at hSw); go_simp; (try with_reducible rfl))
      clear hInv; have hInv := hInv2; clear hInv2
      simp only [Act.put, List.setIfInBounds_toArray, List.set_cons_zero, List.set_cons_succ]
      refine WpEnd.ready (rs := [13]) (by kernel_rfl) (by simp) ?_
      refine EachEnd.cons none rfl rfl (by decide) (by kernel_rfl) hInv (fun K hKK hKB => ?_) EachEnd.nil
      refine step_store_blk rfl 31 (.tmp 4) (.tmp 40) rfl b 31 _ [.int .i64 1, .int .i64 2, .bool true, .bool true, .int .i64 0, .string ⟨#[0]⟩] rfl rfl hz rfl (by kernel_rfl) (by kernel_rfl) ?_
      intro W5 hR5 hK5
      have hgb : g ∉ [b] := fun hm => by simp at hm; omega
      have i1 := (hK5.cell (p := ⟨g, 1, none⟩) (World.block_lt_of_cell? _ _ g1) hgb).trans g1
      have i2 := (hK5.cell (p := ⟨g, 2, none⟩) (World.block_lt_of_cell? _ _ g2) hgb).trans g2
      refine hKK.out _ _ ⟨i1, i2⟩ (fun hInv2 hHeld2 => ?_)
      clear hKK hKB K hInv
      have hInv := hInv2; clear hInv2
      simp only [Act.put, List.setIfInBounds_toArray, List.set_cons_zero, List.set_cons_succ]
      refine WpEnd.ready (rs := [14]) (by kernel_rfl) (by simp) ?_
      refine EachEnd.last rfl (fun K hKK => ?_)
      go_simp
      refine hKK.out _ _ ?_
      clear hKK K
      refine WpEnd.done (by kernel_rfl) ?_ _
      go_wp2_with fail
      go_meet
      exact ⟨b, (by first | rfl | (rw [hb])), hbl, hL2.trans (hK5.toBelowAt hL2.size (fun i hi => by simp at hi; subst hi; exact hbl)), hR5⟩
  case rest =>
    obtain ⟨b, rfl, hbl, hL, hX⟩ := hcut
    have hbr : w.heap.size < b := by have := HR.out.lt; omega
    replace HR := Lib.hid (HR.out.below hL HR.out.lt)
    replace HT := Lib.hid (HT.out.keepB hL)
    have HX := Lib.hid hX
    have HBS := Lib.hid (fun (h : b ∈ S) => (by have := HSL.out b h; omega : False))
    clear hL hX c1 c2 e1 e2 HF HS HB hbl
    obtain ⟨ve, vw, vs, vb, hF, hS⟩ := HT.out.in_
    have HF := Lib.hid hF; have HS := Lib.hid hS; have HB := Lib.hid hF.blk; clear hF hS
    have c7 := HB.out.cell 7
    simp only [Fs.cells, List.getElem?_cons_zero, List.getElem?_cons_succ] at c7
    rw [hhow] at c7
    have x0 := HX.out.cell 0
    have x1 := HX.out.cell 1
    have x2 := HX.out.cell 2
    have x3 := HX.out.cell 3
    have x4 := HX.out.cell 4
    have x5 := HX.out.cell 5
    simp only [List.getElem?_cons_zero, List.getElem?_cons_succ] at x0 x1 x2 x3 x4 x5
    go_wp2_with (refine store_blk rfl _ _ _ rfl w.heap.size 31 _ [.int .i64 1, .int .i64 2, .bool true, .bool true, .int .i64 0, .string ⟨#[0]⟩] rfl rfl HR.out rfl (by kernel_rfl) (by kernel_rfl) ?_)
    intro w9 hR9 hK9
    go_wp2_with fail
    refine ret_cell_tmp rfl w.heap.size 31 [.int .i64 1, .int .i64 2, .bool true, .bool true, .int .i64 0, .string ⟨#[0]⟩] rfl hR9 Try.underlying31 rfl (by kernel_rfl) rfl ?_
    exact ⟨rfl, (HT.out.far hK9 (fun i hi => by simp at hi; subst hi; exact Nat.le_refl _) (fun i hi _ h => by simp at h; have := HSL.out i hi; omega)).to⟩
set_option maxHeartbeats 8000000 in
set_option maxRecDepth 100000 in
theorem Next_set (hSl : ∀ i ∈ S, i < w.heap.size) (hcr : s.craft = 1) (hch : s.chan = 2) (hhow : s.how = 4) (hs0 : 0 ≤ s.set) (hs1 : s.set ≤ 255) (hdue : s.due = true) (hsp : s.susp = false) (hw : s.window ≠ 0) (h : FopIn w g S s) :
    Calls Try.prog 13 #[.pointer (some ⟨g, 0, none⟩)] w fun e w' => e = .returned (.tuple #[.agg #[.int .i64 1, .int .i64 2, .bool true, .bool true, .int .i64 0, .string (snData s.set)], .bool true]) ∧ FopTo w w' g S { s with due := false, given := true } := by
  have HV := Lib.hid (fun W => (by rw [← set_frame s.set hs0 hs1]; exact SetNext_any 1 2 s.set W : Calls Try.prog 37 #[.int .i64 1, .int .i64 2, .int .i64 s.set] W fun e w' => e = .returned (.tuple #[.agg #[.int .i64 1, .int .i64 2, .bool true, .bool true, .int .i64 0, .string (snData s.set)], .int .i64 0]) ∧ Below W.heap.size W w'))
  have HW0 := Lib.hid (show (s.window == 0) = false by simpa using hw)
  have HT := Lib.hid ((Pt.refl h).keepB ((Below.refl w.heap.size w).alloc (Nat.le_refl _) (Obj.cells #[.int .i64 0, .int .i64 0, .bool false, .bool false, .int .i64 0, .string ⟨#[]⟩] 31)))
  have HR := Lib.hid (Blk.new w [.int .i64 0, .int .i64 0, .bool false, .bool false, .int .i64 0, .string ⟨#[]⟩] 31)
  have HSL := Lib.hid hSl
  have HU := Lib.hid (fun W => (by rw [← unlock_frame]; exact Unlock_any 1 2 W : Calls Try.prog 36 #[.int .i64 1, .int .i64 2] W fun e w' => e = .returned (.tuple #[.agg #[.int .i64 1, .int .i64 2, .bool true, .bool true, .int .i64 0, .string ⟨#[0]⟩], .int .i64 0]) ∧ Below W.heap.size W w'))
  clear h hw hSl
  go_enter Try.func13, Try.ntmps13
  go_upto_region 1 with fail
  refine gen_world (fun W => Pt w W g S S s ∧ Blk W w.heap.size [.int .i64 0, .int .i64 0, .bool false, .bool false, .int .i64 0, .string ⟨#[]⟩] 31) ⟨HT.out, HR.out⟩ ?_
  clear HT HR
  rintro w1 ⟨hT, hR⟩
  have HT := Lib.hid hT; have HR := Lib.hid hR; clear hT hR
  go_wp2_with fail
  refine (foNone_in s g S _ false HW0.out HT.out.in_).mono ?_
  rintro e _ ⟨rfl, rfl⟩
  obtain ⟨ve, vw, vs, vb, hF, hS⟩ := HT.out.in_
  have HF := Lib.hid hF; have HS := Lib.hid hS; have HB := Lib.hid hF.blk; clear hF hS
  have c16 := HB.out.cell 16
  have c17 := HB.out.cell 17
  have c19 := HB.out.cell 19
  have f16 := HB.out.free 16
  have f17 := HB.out.free 17
  simp only [Fs.cells, List.getElem?_cons_zero, List.getElem?_cons_succ] at c16 c17 c19
  rw [hdue] at c16
  rw [hsp] at c19
  clear hdue hsp
  go_upto_region 5 with fail
  have hgr : w.heap.size ≠ g := fun e => by
    have := HSL.out g (HS.out _ (mem_own.2 (.inl rfl)))
    omega
  refine gen_world (fun W => Pt w W g S S { s with due := false, given := true } ∧ Blk W w.heap.size [.int .i64 0, .int .i64 0, .bool false, .bool false, .int .i64 0, .string ⟨#[]⟩] 31) ⟨HT.out.upd (s' := { s with due := false, given := true }) HF.out HS.out ((HB.out.set 16 (.bool false)).set 17 (.bool true)) (((Keep.refl [g] _).setCell (.inl (by simp)) _).setCell (.inl (by simp)) _) rfl rfl rfl rfl, (HR.out.set_far (p := ⟨g, 16, none⟩) hgr _).set_far (p := ⟨g, 17, none⟩) hgr _⟩ ?_
  clear HF HS HB c16 c17 c19 f16 f17
  clear HT HR
  rintro w2 ⟨hT, hR⟩
  have HT := Lib.hid hT; have HR := Lib.hid hR; clear hT hR
  obtain ⟨ve, vw, vs, vb, hF, hS⟩ := HT.out.in_
  have HF := Lib.hid hF; have HS := Lib.hid hS; have HB := Lib.hid hF.blk; clear hF hS
  have c1 := HB.out.cell 1
  have c2 := HB.out.cell 2
  simp only [Fs.cells, List.getElem?_cons_zero, List.getElem?_cons_succ] at c1 c2
  rw [hcr] at c1
  rw [hch] at c2
  have e1 := (HB.out.alloc (Obj.cells #[.int .i64 0, .int .i64 0, .bool false, .bool false, .int .i64 0, .string ⟨#[]⟩] 31)).cell 1; have e2 := (HB.out.alloc (Obj.cells #[.int .i64 0, .int .i64 0, .bool false, .bool false, .int .i64 0, .string ⟨#[]⟩] 31)).cell 2
  simp only [Fs.cells, List.getElem?_cons_zero, List.getElem?_cons_succ] at e1 e2
  rw [hcr] at e1
  rw [hch] at e2
  go_cut [4] (fun p4 W2 => ∃ b, p4 = .pointer (some ⟨b, 0, none⟩) ∧ w2.heap.size ≤ b ∧ Below w2.heap.size w2 W2 ∧ Blk W2 b [.int .i64 1, .int .i64 2, .bool true, .bool true, .int .i64 0, .string ⟨#[0]⟩] 31)
  case first =>
    refine region_end (fun W => W.cell? ⟨g, 1, none⟩ = some (.int .i64 1) ∧ W.cell? ⟨g, 2, none⟩ = some (.int .i64 2)) 14 (by kernel_rfl) ⟨c1, c2⟩ (fun hInv hHeld => ?_)
    have hgl : g < w2.heap.size := HB.out.lt
    refine WpEnd.take (i := 0) (some 31) (v := ?_) rfl rfl (by kernel_rfl) (by kernel_rfl) (by kernel_rfl) (fun _ _ _ h => h) (by kernel_rfl) hInv (by assumption) (by rfl) ?_ (fun hInv2 => ?_)
    rotate_left
    · (intro w hSw; (try dsimp only at hSw); go_simp; (try with_reducible rfl))
    clear hInv; have hInv := hInv2; clear hInv2
    simp only [Act.put, List.setIfInBounds_toArray, List.set_cons_zero, List.set_cons_succ]
    refine WpEnd.take (i := 1) (some 32) (v := ?_) rfl rfl (by kernel_rfl) (by kernel_rfl) (by kernel_rfl) (fun _ _ _ h => h) (by kernel_rfl) hInv (by assumption) (by rfl) ?_ (fun hInv2 => ?_)
    rotate_left
    · (intro w hSw; (try dsimp only at hSw); go_simp; (try with_reducible rfl))
    clear hInv; have hInv := hInv2; clear hInv2
    simp only [Act.put, List.setIfInBounds_toArray, List.set_cons_zero, List.set_cons_succ]
    refine WpEnd.take (i := 2) (some 33) (v := ?_) rfl rfl (by kernel_rfl) (by kernel_rfl) (by kernel_rfl) (fun _ _ _ h => h) (by kernel_rfl) hInv (by assumption) (by rfl) ?_ (fun hInv2 => ?_)
    rotate_left
    · (intro w hSw; (try dsimp only at hSw); go_simp; (try with_reducible rfl))
    clear hInv; have hInv := hInv2; clear hInv2
    simp only [Act.put, List.setIfInBounds_toArray, List.set_cons_zero, List.set_cons_succ]
    refine WpEnd.take (i := 3) (some 34) (v := ?_) rfl rfl (by kernel_rfl) (by kernel_rfl) (by kernel_rfl) (fun _ _ _ h => h) (by kernel_rfl) hInv (by assumption) (by rfl) ?_ (fun hInv2 => ?_)
    rotate_left
    · (intro w hSw; (try dsimp only at hSw); go_simp; (try with_reducible rfl))
    clear hInv; have hInv := hInv2; clear hInv2
    simp only [Act.put, List.setIfInBounds_toArray, List.set_cons_zero, List.set_cons_succ]
    refine WpEnd.take (i := 4) (some 35) (v := ?_) rfl rfl (by kernel_rfl) (by kernel_rfl) (by kernel_rfl) (fun _ _ _ h => h) (by kernel_rfl) hInv (by assumption) (by rfl) ?_ (fun hInv2 => ?_)
    rotate_left
    · (intro w hSw; (try dsimp only at hSw); go_simp; (try with_reducible rfl))
    clear hInv; have hInv := hInv2; clear hInv2
    simp only [Act.put, List.setIfInBounds_toArray, List.set_cons_zero, List.set_cons_succ]
    refine WpEnd.take (i := 5) (some 36) (v := ?_) rfl rfl (by kernel_rfl) (by kernel_rfl) (by kernel_rfl) (fun _ _ _ h => h) (by kernel_rfl) hInv (by assumption) (by rfl) ?_ (fun hInv2 => ?_)
    rotate_left
    · (intro w hSw; (try dsimp only at hSw); go_simp; (try with_reducible rfl))
    clear hInv; have hInv := hInv2; clear hInv2
    simp only [Act.put, List.setIfInBounds_toArray, List.set_cons_zero, List.set_cons_succ]
    refine WpEnd.take (i := 6) (some 37) (v := ?_) rfl rfl (by kernel_rfl) (by kernel_rfl) (by kernel_rfl) (fun _ _ _ h => h) (by kernel_rfl) hInv (by assumption) (by rfl) ?_ (fun hInv2 => ?_)
    rotate_left
    · (intro w hSw; (try dsimp only at hSw); go_simp; (try with_reducible rfl))
    clear hInv; have hInv := hInv2; clear hInv2
    simp only [Act.put, List.setIfInBounds_toArray, List.set_cons_zero, List.set_cons_succ]
    refine WpEnd.take (i := 7) (some 38) (v := ?_) rfl rfl (by kernel_rfl) (by kernel_rfl) (by kernel_rfl) (fun _ _ _ h => h) (by kernel_rfl) hInv (by assumption) (by rfl) ?_ (fun hInv2 => ?_)
    rotate_left
    · (intro w hSw; (try dsimp only at hSw); go_simp; (try with_reducible rfl))
    clear hInv; have hInv := hInv2; clear hInv2
    simp only [Act.put, List.setIfInBounds_toArray, List.set_cons_zero, List.set_cons_succ]
    refine WpEnd.ready (rs := [8, 12]) (by kernel_rfl) (by simp) ?_
    refine EachEnd.cons (some 39) rfl rfl (by decide) (by kernel_rfl) hInv (fun K hKK hKB => ?_) (EachEnd.cons (some 4) rfl rfl (by decide) (by kernel_rfl) hInv (fun K hKK hKB => ?_) EachEnd.nil)
    · refine step_call rfl 36 #[.tmp 34, .tmp 38] _ rfl #[.int .i64 1, .int .i64 2] (by kernel_rfl) (fun x V => x = .tuple #[.agg #[.int .i64 1, .int .i64 2, .bool true, .bool true, .int .i64 0, .string ⟨#[0]⟩], .int .i64 0] ∧ Below w2.drew.heap.size w2.drew V) ((HU.out w2.drew).mono fun e V h => ⟨_, h.1, rfl, h.2⟩) ?_
      rintro x W3 ⟨rfl, hL⟩
      have hc := hHeld
      have d1 := (hL.cell (p := ⟨g, 1, none⟩) hgl).trans hc.1
      have d2 := (hL.cell (p := ⟨g, 2, none⟩) hgl).trans hc.2
      refine hKK.out _ _ ⟨d1, d2⟩ (fun hInv2 hHeld2 => ?_)
      clear hKK hKB K hInv hHeld hHeld2 hc
      have hInv := hInv2; clear hInv2
      have hHeld : W3.cell? ⟨g, 1, none⟩ = some (.int .i64 1) ∧ W3.cell? ⟨g, 2, none⟩ = some (.int .i64 2) := ⟨d1, d2⟩
      simp only [Act.put, List.setIfInBounds_toArray, List.set_cons_zero, List.set_cons_succ]
      refine WpEnd.take (i := 9) (some 30) (v := ?_) rfl rfl (by kernel_rfl) (by kernel_rfl) (by kernel_rfl) (fun _ _ _ h => h) (by kernel_rfl) hInv (by assumption) (by rfl) ?_ (fun hInv2 => ?_)
      rotate_left
      · (intro w hSw; (try dsimp only at hSw); go_simp; (try with_reducible rfl))
      clear hInv; have hInv := hInv2; clear hInv2
      simp only [Act.put, List.setIfInBounds_toArray, List.set_cons_zero, List.set_cons_succ]
      refine WpEnd.take (i := 10) (some 40) (v := ?_) rfl rfl (by kernel_rfl) (by kernel_rfl) (by kernel_rfl) (fun _ _ _ h => h) (by kernel_rfl) hInv (by assumption) (by rfl) ?_ (fun hInv2 => ?_)
      rotate_left
      · (intro w hSw; (try dsimp only at hSw); go_simp; (try with_reducible rfl))
      clear hInv; have hInv := hInv2; clear hInv2
      simp only [Act.put, List.setIfInBounds_toArray, List.set_cons_zero, List.set_cons_succ]
      refine WpEnd.take (i := 11) (some 41) (v := ?_) rfl rfl (by kernel_rfl) (by kernel_rfl) (by kernel_rfl) (fun _ _ _ h => h) (by kernel_rfl) hInv (by assumption) (by rfl) ?_ (fun hInv2 => ?_)
      rotate_left
      · (intro w hSw; (try dsimp only at hSw); go_simp; (try with_reducible rfl))
      clear hInv; have hInv := hInv2; clear hInv2
      simp only [Act.put, List.setIfInBounds_toArray, List.set_cons_zero, List.set_cons_succ]
      refine WpEnd.ready (rs := [12]) (by kernel_rfl) (by simp) ?_
      refine EachEnd.cons (some 4) rfl rfl (by decide) (by kernel_rfl) hInv (fun K hKK hKB => ?_) EachEnd.nil
      have hz := Blk.new W3 [.int .i64 0, .int .i64 0, .bool false, .bool false, .int .i64 0, .string ⟨#[]⟩] 31
      have g1 := (((Below.refl W3.heap.size W3).alloc (Nat.le_refl _) (Obj.cells #[.int .i64 0, .int .i64 0, .bool false, .bool false, .int .i64 0, .string ⟨#[]⟩] 31)).cell (p := ⟨g, 1, none⟩) (Nat.lt_of_lt_of_le hgl hL.size)).trans d1
      have g2 := (((Below.refl W3.heap.size W3).alloc (Nat.le_refl _) (Obj.cells #[.int .i64 0, .int .i64 0, .bool false, .bool false, .int .i64 0, .string ⟨#[]⟩] 31)).cell (p := ⟨g, 2, none⟩) (Nat.lt_of_lt_of_le hgl hL.size)).trans d2
      go_simp
      refine hKB.out _ _ ⟨g1, g2⟩ (fun hInv2 hHeld2 => ?_)
      clear hKK hKB K hInv hHeld hHeld2
      have hInv := hInv2; clear hInv2
      have hL2 : Below w2.heap.size w2 (W3.alloc (Obj.cells #[.int .i64 0, .int .i64 0, .bool false, .bool false, .int .i64 0, .string ⟨#[]⟩] 31)) := (((Below.refl _ w2).drew).trans hL).alloc hL.size _
      obtain ⟨b, hb⟩ : ∃ b, b = W3.heap.size := ⟨_, rfl⟩
      obtain ⟨W4, hW4⟩ : ∃ W4, W4 = W3.alloc (Obj.cells #[.int .i64 0, .int .i64 0, .bool false, .bool false, .int .i64 0, .string ⟨#[]⟩] 31) := ⟨_, rfl⟩
      have hbl : w2.heap.size ≤ b := by rw [hb]; exact hL.size
      rw [← hb, ← hW4] at hz
      rw [← hW4] at hL2 g1 g2
      rw [← hb, ← hW4]
      clear hb hW4 hL d1 d2
      refine WpEnd.ready (rs := [13]) (by kernel_rfl) (by simp) ?_
      refine EachEnd.cons none rfl rfl (by decide) (by kernel_rfl) hInv (fun K hKK hKB => ?_) EachEnd.nil
      refine step_store_blk rfl 31 (.tmp 4) (.tmp 40) rfl b 31 _ [.int .i64 1, .int .i64 2, .bool true, .bool true, .int .i64 0, .string ⟨#[0]⟩] rfl rfl hz rfl (by kernel_rfl) (by kernel_rfl) ?_
      intro W5 hR5 hK5
      have hgb : g ∉ [b] := fun hm => by simp at hm; omega
      have i1 := (hK5.cell (p := ⟨g, 1, none⟩) (World.block_lt_of_cell? _ _ g1) hgb).trans g1
      have i2 := (hK5.cell (p := ⟨g, 2, none⟩) (World.block_lt_of_cell? _ _ g2) hgb).trans g2
      refine hKK.out _ _ ⟨i1, i2⟩ (fun hInv2 hHeld2 => ?_)
      clear hKK hKB K hInv
      have hInv := hInv2; clear hInv2
      simp only [Act.put, List.setIfInBounds_toArray, List.set_cons_zero, List.set_cons_succ]
      refine WpEnd.ready (rs := [14]) (by kernel_rfl) (by simp) ?_
      refine EachEnd.last rfl (fun K hKK => ?_)
      go_simp
      refine hKK.out _ _ ?_
      clear hKK K
      refine WpEnd.done (by kernel_rfl) ?_ _
      go_wp2_with fail
      go_meet
      exact ⟨b, (by first | rfl | (rw [hb])), hbl, hL2.trans (hK5.toBelowAt hL2.size (fun i hi => by simp at hi; subst hi; exact hbl)), hR5⟩
    · have hz := Blk.new w2 [.int .i64 0, .int .i64 0, .bool false, .bool false, .int .i64 0, .string ⟨#[]⟩] 31
      have g1 := (((Below.refl w2.heap.size w2).alloc (Nat.le_refl _) (Obj.cells #[.int .i64 0, .int .i64 0, .bool false, .bool false, .int .i64 0, .string ⟨#[]⟩] 31)).cell (p := ⟨g, 1, none⟩) hgl).trans hHeld.1
      have g2 := (((Below.refl w2.heap.size w2).alloc (Nat.le_refl _) (Obj.cells #[.int .i64 0, .int .i64 0, .bool false, .bool false, .int .i64 0, .string ⟨#[]⟩] 31)).cell (p := ⟨g, 2, none⟩) hgl).trans hHeld.2
      go_simp
      refine hKB.out _ _ ⟨g1, g2⟩ (fun hInv2 hHeld2 => ?_)
      clear hKK hKB K hInv hHeld
      have hInv := hInv2; clear hInv2
      have hL1 : Below w2.heap.size w2 (w2.alloc (Obj.cells #[.int .i64 0, .int .i64 0, .bool false, .bool false, .int .i64 0, .string ⟨#[]⟩] 31)).drew := ((Below.refl _ w2).alloc (Nat.le_refl _) _).drew
      have hz1 : Blk (w2.alloc (Obj.cells #[.int .i64 0, .int .i64 0, .bool false, .bool false, .int .i64 0, .string ⟨#[]⟩] 31)).drew w2.heap.size [.int .i64 0, .int .i64 0, .bool false, .bool false, .int .i64 0, .string ⟨#[]⟩] 31 := hz.drew
      obtain ⟨b, hb⟩ : ∃ b, b = w2.heap.size := ⟨_, rfl⟩
      obtain ⟨W3, hW3⟩ : ∃ W3, W3 = (w2.alloc (Obj.cells #[.int .i64 0, .int .i64 0, .bool false, .bool false, .int .i64 0, .string ⟨#[]⟩] 31)).drew := ⟨_, rfl⟩
      have hbl : w2.heap.size ≤ b := Nat.le_of_eq hb.symm
      have hHeld : W3.cell? ⟨g, 1, none⟩ = some (.int .i64 1) ∧ W3.cell? ⟨g, 2, none⟩ = some (.int .i64 2) := by rw [hW3]; exact hHeld2
      rw [← hW3] at hz1 hL1 ⊢
      rw [← hb] at hz1 ⊢
      clear hz g1 g2 hHeld2 hW3
      refine WpEnd.ready (rs := [8]) (by kernel_rfl) (by simp) ?_
      refine EachEnd.cons (some 39) rfl rfl (by decide) (by kernel_rfl) hInv (fun K hKK hKB => ?_) EachEnd.nil
      refine step_call rfl 36 #[.tmp 34, .tmp 38] _ rfl #[.int .i64 1, .int .i64 2] (by kernel_rfl) (fun x V => x = .tuple #[.agg #[.int .i64 1, .int .i64 2, .bool true, .bool true, .int .i64 0, .string ⟨#[0]⟩], .int .i64 0] ∧ Below W3.heap.size W3 V) ((HU.out W3).mono fun e V h => ⟨_, h.1, rfl, h.2⟩) ?_
      rintro x W4 ⟨rfl, hL⟩
      have g1 := (hL.cell (p := ⟨g, 1, none⟩) (World.block_lt_of_cell? _ _ hHeld.1)).trans hHeld.1
      have g2 := (hL.cell (p := ⟨g, 2, none⟩) (World.block_lt_of_cell? _ _ hHeld.2)).trans hHeld.2
      have hz := hz1.below hL hz1.lt
      have hL2 := hL1.trans (hL.mono hL1.size)
      refine hKK.out _ _ ⟨g1, g2⟩ (fun hInv2 hHeld2 => ?_)
      clear hKK hKB K hInv hHeld hHeld2 hz1 hL hL1
      have hInv := hInv2; clear hInv2
      have hHeld : W4.cell? ⟨g, 1, none⟩ = some (.int .i64 1) ∧ W4.cell? ⟨g, 2, none⟩ = some (.int .i64 2) := ⟨g1, g2⟩
      simp only [Act.put, List.setIfInBounds_toArray, List.set_cons_zero, List.set_cons_succ]
      refine WpEnd.take (i := 9) (some 30) (v := ?_) rfl rfl (by kernel_rfl) (by kernel_rfl) (by kernel_rfl) (fun _ _ _ h => h) (by kernel_rfl) hInv (by assumption) (by rfl) ?_ (fun hInv2 => ?_)
      rotate_left
      · (intro w hSw; (try dsimp only at hSw); go_simp; (try with_reducible rfl))
      clear hInv; have hInv := hInv2; clear hInv2
      simp only [Act.put, List.setIfInBounds_toArray, List.set_cons_zero, List.set_cons_succ]
      refine WpEnd.take (i := 10) (some 40) (v := ?_) rfl rfl (by kernel_rfl) (by kernel_rfl) (by kernel_rfl) (fun _ _ _ h => h) (by kernel_rfl) hInv (by assumption) (by rfl) ?_ (fun hInv2 => ?_)
      rotate_left
      · (intro w hSw; (try dsimp only at hSw); go_simp; (try with_reducible rfl))
      clear hInv; have hInv := hInv2; clear hInv2
      simp only [Act.put, List.setIfInBounds_toArray, List.set_cons_zero, List.set_cons_succ]
      refine WpEnd.take (i := 11) (some 41) (v := ?_) rfl rfl (by kernel_rfl) (by kernel_rfl) (by kernel_rfl) (fun _ _ _ h => h) (by kernel_rfl) hInv (by assumption) (by rfl) ?_ (fun hInv2 => ?_)
      rotate_left
      · (intro w hSw; (try dsimp only at hSw); go_simp; (try with_reducible rfl))
      clear hInv; have hInv := hInv2; clear hInv2
      simp only [Act.put, List.setIfInBounds_toArray, List.set_cons_zero, List.set_cons_succ]
      refine WpEnd.ready (rs := [13]) (by kernel_rfl) (by simp) ?_
      refine EachEnd.cons none rfl rfl (by decide) (by kernel_rfl) hInv (fun K hKK hKB => ?_) EachEnd.nil
      refine step_store_blk rfl 31 (.tmp 4) (.tmp 40) rfl b 31 _ [.int .i64 1, .int .i64 2, .bool true, .bool true, .int .i64 0, .string ⟨#[0]⟩] rfl rfl hz rfl (by kernel_rfl) (by kernel_rfl) ?_
      intro W5 hR5 hK5
      have hgb : g ∉ [b] := fun hm => by simp at hm; omega
      have i1 := (hK5.cell (p := ⟨g, 1, none⟩) (World.block_lt_of_cell? _ _ g1) hgb).trans g1
      have i2 := (hK5.cell (p := ⟨g, 2, none⟩) (World.block_lt_of_cell? _ _ g2) hgb).trans g2
      refine hKK.out _ _ ⟨i1, i2⟩ (fun hInv2 hHeld2 => ?_)
      clear hKK hKB K hInv
      have hInv := hInv2; clear hInv2
      simp only [Act.put, List.setIfInBounds_toArray, List.set_cons_zero, List.set_cons_succ]
      refine WpEnd.ready (rs := [14]) (by kernel_rfl) (by simp) ?_
      refine EachEnd.last rfl (fun K hKK => ?_)
      go_simp
      refine hKK.out _ _ ?_
      clear hKK K
      refine WpEnd.done (by kernel_rfl) ?_ _
      go_wp2_with fail
      go_meet
      exact ⟨b, (by first | rfl | (rw [hb])), hbl, hL2.trans (hK5.toBelowAt hL2.size (fun i hi => by simp at hi; subst hi; exact hbl)), hR5⟩
  case rest =>
    obtain ⟨b, rfl, hbl, hL, hX⟩ := hcut
    have hbr : w.heap.size < b := by have := HR.out.lt; omega
    replace HR := Lib.hid (HR.out.below hL HR.out.lt)
    replace HT := Lib.hid (HT.out.keepB hL)
    have HX := Lib.hid hX
    have HBS := Lib.hid (fun (h : b ∈ S) => (by have := HSL.out b h; omega : False))
    clear hL hX c1 c2 e1 e2 HF HS HB hbl
    obtain ⟨ve, vw, vs, vb, hF, hS⟩ := HT.out.in_
    have HF := Lib.hid hF; have HS := Lib.hid hS; have HB := Lib.hid hF.blk; clear hF hS
    have c7 := HB.out.cell 7
    simp only [Fs.cells, List.getElem?_cons_zero, List.getElem?_cons_succ] at c7
    rw [hhow] at c7
    have c1 := HB.out.cell 1; have c2 := HB.out.cell 2; have c8 := HB.out.cell 8
    simp only [Fs.cells, List.getElem?_cons_zero, List.getElem?_cons_succ] at c1 c2 c8
    rw [hcr] at c1
    rw [hch] at c2
    have hgl : g < wc.heap.size := HB.out.lt
    have hgb : g ≠ b := fun e => by
      have := HS.out g (mem_own.2 (.inl rfl))
      exact HBS.out (e ▸ this)
    go_upto_region 7 with fail
    refine wp_region_noPanic ?_
    refine wp_region_held_drew (S := fun W => W.cell? ⟨g, 1, none⟩ = some (.int .i64 1) ∧ W.cell? ⟨g, 2, none⟩ = some (.int .i64 2) ∧ W.cell? ⟨g, 8, none⟩ = some (.int .i64 s.set)) (by kernel_rfl) ⟨c1, c2, c8⟩ (fun hHeld => ?_)
    refine heldTake (i := 0) (some 48) (v := ?_) rfl rfl (by kernel_rfl) (by kernel_rfl) (by kernel_rfl) (fun _ _ _ h => h) (by rfl) (by assumption) ?_ ?_
    rotate_left
    · (intro w hSw; (try dsimp only at hSw); go_simp; (try with_reducible rfl))
    simp only [Act.put, List.setIfInBounds_toArray, List.set_cons_zero, List.set_cons_succ]
    refine heldTake (i := 1) (some 49) (v := ?_) rfl rfl (by kernel_rfl) (by kernel_rfl) (by kernel_rfl) (fun _ _ _ h => h) (by rfl) (by assumption) ?_ ?_
    rotate_left
    · (intro w hSw; (try dsimp only at hSw); go_simp; (try with_reducible rfl))
    simp only [Act.put, List.setIfInBounds_toArray, List.set_cons_zero, List.set_cons_succ]
    refine heldTake (i := 2) (some 50) (v := ?_) rfl rfl (by kernel_rfl) (by kernel_rfl) (by kernel_rfl) (fun _ _ _ h => h) (by rfl) (by assumption) ?_ ?_
    rotate_left
    · (intro w hSw; (try dsimp only at hSw); go_simp; (try with_reducible rfl))
    simp only [Act.put, List.setIfInBounds_toArray, List.set_cons_zero, List.set_cons_succ]
    refine heldTake (i := 3) (some 51) (v := ?_) rfl rfl (by kernel_rfl) (by kernel_rfl) (by kernel_rfl) (fun _ _ _ h => h) (by rfl) (by assumption) ?_ ?_
    rotate_left
    · (intro w hSw; (try dsimp only at hSw); go_simp; (try with_reducible rfl))
    simp only [Act.put, List.setIfInBounds_toArray, List.set_cons_zero, List.set_cons_succ]
    refine heldTake (i := 4) (some 52) (v := ?_) rfl rfl (by kernel_rfl) (by kernel_rfl) (by kernel_rfl) (fun _ _ _ h => h) (by rfl) (by assumption) ?_ ?_
    rotate_left
    · (intro w hSw; (try dsimp only at hSw); go_simp; (try with_reducible rfl))
    simp only [Act.put, List.setIfInBounds_toArray, List.set_cons_zero, List.set_cons_succ]
    refine heldTake (i := 5) (some 53) (v := ?_) rfl rfl (by kernel_rfl) (by kernel_rfl) (by kernel_rfl) (fun _ _ _ h => h) (by rfl) (by assumption) ?_ ?_
    rotate_left
    · (intro w hSw; (try dsimp only at hSw); go_simp; (try with_reducible rfl))
    simp only [Act.put, List.setIfInBounds_toArray, List.set_cons_zero, List.set_cons_succ]
    refine heldTake (i := 6) (some 54) (v := ?_) rfl rfl (by kernel_rfl) (by kernel_rfl) (by kernel_rfl) (fun _ _ _ h => h) (by rfl) (by assumption) ?_ ?_
    rotate_left
    · (intro w hSw; (try dsimp only at hSw); go_simp; (try with_reducible rfl))
    simp only [Act.put, List.setIfInBounds_toArray, List.set_cons_zero, List.set_cons_succ]
    refine heldTake (i := 7) (some 55) (v := ?_) rfl rfl (by kernel_rfl) (by kernel_rfl) (by kernel_rfl) (fun _ _ _ h => h) (by rfl) (by assumption) ?_ ?_
    rotate_left
    · (intro w hSw; (try dsimp only at hSw); go_simp; (try with_reducible rfl))
    simp only [Act.put, List.setIfInBounds_toArray, List.set_cons_zero, List.set_cons_succ]
    refine heldTake (i := 8) (some 56) (v := ?_) rfl rfl (by kernel_rfl) (by kernel_rfl) (by kernel_rfl) (fun _ _ _ h => h) (by rfl) (by assumption) ?_ ?_
    rotate_left
    · (intro w hSw; (try dsimp only at hSw); go_simp; (try with_reducible rfl))
    simp only [Act.put, List.setIfInBounds_toArray, List.set_cons_zero, List.set_cons_succ]
    refine heldTake (i := 9) (some 57) (v := ?_) rfl rfl (by kernel_rfl) (by kernel_rfl) (by kernel_rfl) (fun _ _ _ h => h) (by rfl) (by assumption) ?_ ?_
    rotate_left
    · (intro w hSw; (try dsimp only at hSw); go_simp; (try with_reducible rfl))
    simp only [Act.put, List.setIfInBounds_toArray, List.set_cons_zero, List.set_cons_succ]
    refine heldTake (i := 10) (some 58) (v := ?_) rfl rfl (by kernel_rfl) (by kernel_rfl) (by kernel_rfl) (fun _ _ _ h => h) (by rfl) (by assumption) ?_ ?_
    rotate_left
    · (intro w hSw; (try dsimp only at hSw); go_simp; (try with_reducible rfl))
    simp only [Act.put, List.setIfInBounds_toArray, List.set_cons_zero, List.set_cons_succ]
    refine heldTake (i := 11) (some 59) (v := ?_) rfl rfl (by kernel_rfl) (by kernel_rfl) (by kernel_rfl) (fun _ _ _ h => h) (by rfl) (by assumption) ?_ ?_
    rotate_left
    · (intro w hSw; (try dsimp only at hSw); go_simp; (try with_reducible rfl))
    simp only [Act.put, List.setIfInBounds_toArray, List.set_cons_zero, List.set_cons_succ]
    refine wpAnyH_ready (rs := [12]) (by kernel_rfl) (by simp) ?_
    refine heldCons (some 60) rfl rfl (fun K hK => ?_) AllReadyH.nil
    refine step_call rfl 37 #[.tmp 51, .tmp 55, .tmp 59] _ rfl #[.int .i64 1, .int .i64 2, .int .i64 s.set] (by kernel_rfl) (fun x V => x = .tuple #[.agg #[.int .i64 1, .int .i64 2, .bool true, .bool true, .int .i64 0, .string (snData s.set)], .int .i64 0] ∧ Below wc.drew.heap.size wc.drew V) ((HV.out wc.drew).mono fun e V h => ⟨_, h.1, rfl, h.2⟩) ?_
    rintro x W3 ⟨rfl, hL⟩
    have d1 := (hL.cell (p := ⟨g, 1, none⟩) hgl).trans hHeld.1
    have d2 := (hL.cell (p := ⟨g, 2, none⟩) hgl).trans hHeld.2.1
    have d8 := (hL.cell (p := ⟨g, 8, none⟩) hgl).trans hHeld.2.2
    have hX3 := HX.out.drew.below hL HX.out.drew.lt
    have hR3 := HR.out.drew.below hL HR.out.drew.lt
    have hT3 := HT.out.drew.keepB hL
    refine hK.out _ _ ⟨d1, d2, d8⟩ (fun hHeld2 => ?_)
    clear hK K hHeld hL
    simp only [Act.put, List.setIfInBounds_toArray, List.set_cons_zero, List.set_cons_succ]
    refine heldTake (i := 13) (some 47) (v := ?_) rfl rfl (by kernel_rfl) (by kernel_rfl) (by kernel_rfl) (fun _ _ _ h => h) (by rfl) (by assumption) ?_ ?_
    rotate_left
    · (intro w hSw; (try dsimp only at hSw); go_simp; (try with_reducible rfl))
    simp only [Act.put, List.setIfInBounds_toArray, List.set_cons_zero, List.set_cons_succ]
    refine heldTake (i := 14) (some 61) (v := ?_) rfl rfl (by kernel_rfl) (by kernel_rfl) (by kernel_rfl) (fun _ _ _ h => h) (by rfl) (by assumption) ?_ ?_
    rotate_left
    · (intro w hSw; (try dsimp only at hSw); go_simp; (try with_reducible rfl))
    simp only [Act.put, List.setIfInBounds_toArray, List.set_cons_zero, List.set_cons_succ]
    refine heldTake (i := 15) (some 62) (v := ?_) rfl rfl (by kernel_rfl) (by kernel_rfl) (by kernel_rfl) (fun _ _ _ h => h) (by rfl) (by assumption) ?_ ?_
    rotate_left
    · (intro w hSw; (try dsimp only at hSw); go_simp; (try with_reducible rfl))
    simp only [Act.put, List.setIfInBounds_toArray, List.set_cons_zero, List.set_cons_succ]
    refine wpAnyH_ready (rs := [16]) (by kernel_rfl) (by simp) ?_
    refine heldCons none rfl rfl (fun K hK => ?_) AllReadyH.nil
    refine step_store_blk rfl 31 (.tmp 4) (.tmp 61) rfl b 31 _ [.int .i64 1, .int .i64 2, .bool true, .bool true, .int .i64 0, .string (snData s.set)] rfl rfl hX3 rfl (by kernel_rfl) (by kernel_rfl) ?_
    intro W5 hX5 hK5
    have hgb2 : g ∉ [b] := fun hm => by simp at hm; exact hgb hm
    have i1 := (hK5.cell (p := ⟨g, 1, none⟩) (World.block_lt_of_cell? _ _ d1) hgb2).trans d1
    have i2 := (hK5.cell (p := ⟨g, 2, none⟩) (World.block_lt_of_cell? _ _ d2) hgb2).trans d2
    have i8 := (hK5.cell (p := ⟨g, 8, none⟩) (World.block_lt_of_cell? _ _ d8) hgb2).trans d8
    refine hK.out _ _ ⟨i1, i2, i8⟩ (fun hHeld => ?_)
    clear hK K
    simp only [Act.put, List.setIfInBounds_toArray, List.set_cons_zero, List.set_cons_succ]
    refine wpAnyH_done (by kernel_rfl) ?_ _
    refine NoPanic.normal ?_
    have HR5 := Lib.hid (hR3.keep hK5 (by simp; omega))
    have HT5 := Lib.hid (hT3.far hK5 (fun i hi => by simp at hi; omega) (fun i hi _ h => by simp at h; subst h; exact HBS.out hi))
    have HX5 := Lib.hid hX5
    clear hK5 hX5 hR3 hT3 hX3 i1 i2 i8 d1 d2 d8 hHeld hHeld2 HX HR HT c1 c2 c8 HF HS HB
    have x0 := HX5.out.cell 0
    have x1 := HX5.out.cell 1
    have x2 := HX5.out.cell 2
    have x3 := HX5.out.cell 3
    have x4 := HX5.out.cell 4
    have x5 := HX5.out.cell 5
    simp only [List.getElem?_cons_zero, List.getElem?_cons_succ] at x0 x1 x2 x3 x4 x5
    go_wp2_with (refine store_blk rfl _ _ _ rfl w.heap.size 31 _ [.int .i64 1, .int .i64 2, .bool true, .bool true, .int .i64 0, .string (snData s.set)] rfl rfl HR5.out rfl (by kernel_rfl) (by kernel_rfl) ?_)
    intro w9 hR9 hK9
    go_wp2_with fail
    refine ret_cell_tmp rfl w.heap.size 31 [.int .i64 1, .int .i64 2, .bool true, .bool true, .int .i64 0, .string (snData s.set)] rfl hR9 Try.underlying31 rfl (by kernel_rfl) rfl ?_
    exact ⟨rfl, (HT5.out.far hK9 (fun i hi => by simp at hi; subst hi; exact Nat.le_refl _) (fun i hi _ h => by simp at h; have := HSL.out i hi; omega)).to⟩
end
end Go.Proofs.Ytbncejmohhejlaa