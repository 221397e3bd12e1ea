/- What is proved here: the walk of Open of guards: the sum and the counter. -/
import Derived.Test.YtincoocagfegfaaU9
set_option linter.unusedVariables false
set_option linter.unusedSimpArgs false
namespace Go.Proofs.Ytincoocagfegfaa
open Go.RowKit
theorem sum_new (key : ByteArray) (ch : Int) (b : ByteArray) (w : World) (hk : key.size = 16) (h0 : 0 ≤ ch) (h1 : ch ≤ 7) (hb : b.size ≤ 1000000) :
    Calls Try.prog 20 #[.string key, .int .i64 ch, .string b] w fun e w' => ∃ v', e = .returned v' ∧ (Row w' w.heap.size v' (sumL key.data.toList ch b.data.toList) ∧ Below w.heap.size w w') := asum_any key ch b w hk h0 h1 hb
theorem same_new (a b : ByteArray) (w : World) (ha : a.size ≤ 1000000) (hab : b.size = a.size) : Calls Try.prog 27 #[.string a, .string b] w fun e w' => ∃ v, e = .returned v ∧ (v = .bool (a.data.toList == b.data.toList) ∧ Below w.heap.size w w') :=
  (asame_any a b w ha hab).mono fun e w' h => ⟨_, h.1, rfl, h.2⟩
theorem take_cells (key : ByteArray) (s : Gs) (ch : Nat) (n : BitVec 64) (h : ch < 8) : ((Value.string key :: s.cells).set (2 + ch) (vu n)).set 1 (vu (s.ser + 1#64)) = Value.string key :: (s.take ch n).cells := by
  match ch, h with
  | 0, _ => simp [Gs.take, Gs.cells]
  | 1, _ => simp [Gs.take, Gs.cells]
  | 2, _ => simp [Gs.take, Gs.cells]
  | 3, _ => simp [Gs.take, Gs.cells]
  | 4, _ => simp [Gs.take, Gs.cells]
  | 5, _ => simp [Gs.take, Gs.cells]
  | 6, _ => simp [Gs.take, Gs.cells]
  | 7, _ => simp [Gs.take, Gs.cells]
theorem wrap_op (op : Int) (c : UInt8) (h : op = (c.toNat : Int)) : IntKind.i64.wrap op = op := by
  have := c.toNat_lt
  rw [IntKind.wrap_i64]; omega
theorem text_new (s : Gs) (w : World) : Calls Try.prog 29 #[s.val] w fun e w' => ∃ v, e = .returned v ∧ (v = .string ⟨(textL s).toArray⟩ ∧ Below w.heap.size w w') :=
  (atext_any s w).mono fun e w' h => ⟨_, h.1, rfl, h.2⟩
theorem clone_new (a : ByteArray) (w : World) (ha : a.size ≤ 1000000) : Calls Try.prog 25 #[.string a] w fun e w' => ∃ v, e = .returned v ∧ (v = .string a ∧ Below w.heap.size w w') :=
  (Clone_any a w ha).mono fun e w' h => ⟨_, h.1, rfl, h.2⟩
/-- What Open answers. -/
structure OpenR where
  st : Gs
  cmd : Cm
  save : ByteArray
  err : Int
def openIn (key : List UInt8) (s : Gs) (ch : Int) (d : ByteArray) : OpenR :=
  let m := d.size - 8
  if (sumL key ch (d.extract 0 m).data.toList == (d.extract m d.size).data.toList) = false then ⟨s, Cm.zero, ⟨#[]⟩, 170⟩
  else
    let n := num64 (d.extract 0 8).data.toList
    if n.toNat ≤ (s.l ch.toNat).toNat then ⟨s, Cm.zero, ⟨#[]⟩, 171⟩
    else ⟨s.take ch.toNat n, ⟨ch, n, ((d.data.toList.getD 8 0).toNat : Int), d.extract 9 m⟩, ⟨(textL (s.take ch.toNat n)).toArray⟩, 0⟩
set_option maxHeartbeats 8000000 in
set_option maxRecDepth 100000 in
theorem aOpen_in (g : Nat) (key : ByteArray) (s : Gs) (ch : Nat) (d : ByteArray) (w : World) (hk : key.size = 16) (hB : Gd w g key s) (h7 : ch < 8) (hd : 17 ≤ d.size) (hd2 : d.size ≤ 197) :
    Calls Try.prog 16 #[.pointer (some ⟨g, 0, none⟩), .int .i64 (ch : Int), .string d] w fun e w' => e = .returned (.tuple #[(openIn key.data.toList s ch d).cmd.val, .string (openIn key.data.toList s ch d).save, .int .i64 (openIn key.data.toList s ch d).err]) ∧ Keep [g] w w' ∧ Gd w' g key (openIn key.data.toList s ch d).st := by
  have HL := Lib.hid ((Keep.refl [g] w).alloc (Obj.cells #[.int .i64 0, .int .u64 0, .int .i64 0, .string ⟨#[]⟩] 24))
  have HX := Lib.hid (Blk.new w [.int .i64 0, .int .u64 0, .int .i64 0, .string ⟨#[]⟩] 24)
  have HB := Lib.hid (Blk.alloc hB (Obj.cells #[.int .i64 0, .int .u64 0, .int .i64 0, .string ⟨#[]⟩] 24))
  have hgw : g < w.heap.size := hB.lt
  have hn := anone_any g key s (w.alloc (Obj.cells #[.int .i64 0, .int .u64 0, .int .i64 0, .string ⟨#[]⟩] 24)) HB.out
  rw [not_empty key hk] at hn
  have HN := Lib.hid hn; clear hn hB
  obtain ⟨m, hm⟩ : ∃ m, m = d.size - 8 := ⟨_, rfl⟩
  obtain ⟨n, hn⟩ : ∃ n, n = num64 (d.extract 0 8).data.toList := ⟨_, rfl⟩
  obtain ⟨l, hl⟩ : ∃ l, l = sumL key.data.toList ch (d.extract 0 m).data.toList := ⟨_, rfl⟩
  obtain ⟨r, hr⟩ : ∃ r : Bool, r = (l == (d.extract m d.size).data.toList) := ⟨_, rfl⟩
  have hop : openIn key.data.toList s ch d = if r = false then ⟨s, Cm.zero, ⟨#[]⟩, 170⟩ else if n.toNat ≤ (s.l ch).toNat then ⟨s, Cm.zero, ⟨#[]⟩, 171⟩ else ⟨s.take ch n, ⟨ch, n, ((d.data.toList.getD 8 0).toNat : Int), d.extract 9 m⟩, ⟨(textL (s.take ch n)).toArray⟩, 0⟩ := by
    rw [hr, hl, hn, hm]; rfl
  have hls : l.length = 8 := by rw [hl]; simp [sumL, be8]
  have HSUM := Lib.hid (fun W => sum_new key ch (d.extract 0 m) W hk (by omega) (by omega) (by simp; omega))
  have HSAME := Lib.hid (fun W => same_new ⟨l.toArray⟩ (d.extract m d.size) W (by show l.toArray.size ≤ _; simp; omega) (by show _ = l.toArray.size; simp; omega))
  rw [← hl] at HSUM
  have hr2 : ((⟨l.toArray⟩ : ByteArray).data.toList == (d.extract m d.size).data.toList) = r := hr.symm
  rw [hr2] at HSAME
  have HNUM := Lib.hid (fun W => anumber_any (d.extract 0 8) W (by simp; omega))
  rw [← hn] at HNUM
  have hmi : ((d.size : Int) - 8) = (m : Int) := by omega
  have HMI := Lib.hid hmi
  have hm9 : 9 ≤ m := by omega
  have hmd : m ≤ d.size := by omega
  have d0 : decide ((ch : Int) < 0) = false := decide_eq_false (by omega)
  have d1 : decide ((8 : Int) ≤ ch) = false := decide_eq_false (by omega)
  have d2 : decide ((d.size : Int) < 17) = false := decide_eq_false (by omega)
  have d3 : decide ((197 : Int) < d.size) = false := decide_eq_false (by omega)
  have HOP := Lib.hid hop; have HK := Lib.hid hk; have HM := Lib.hid hm
  clear hk hop hm hn hl hr hr2 hls hmi
  go_enter Try.func16, Try.ntmps16
  go_wp2_with fail
  refine HN.out.mono ?_
  rintro e _ ⟨rfl, rfl⟩
  go_upto_region 8 with fail
  clear d0 d1 d2 d3 HN
  rw [HMI.out]
  refine gen_world (fun v => Keep [g] w v ∧ Blk v w.heap.size [.int .i64 0, .int .u64 0, .int .i64 0, .string ⟨#[]⟩] 24 ∧ Blk v g (.string key :: s.cells) 45) ⟨HL.out, HX.out, HB.out⟩ ?_
  clear HL HX HB
  rintro v ⟨hL, hX, hB⟩
  have HL := Lib.hid hL; have HX := Lib.hid hX; have HB := Lib.hid hB; clear hL hX hB
  go_cut [47] (fun p wx => p = .bool (!r) ∧ Keep [g] w wx ∧ Blk wx w.heap.size [.int .i64 0, .int .u64 0, .int .i64 0, .string ⟨#[]⟩] 24 ∧ Blk wx g (.string key :: s.cells) 45)
  case first =>
    have k0 := HB.out.cell 0
    simp only [List.getElem?_cons_zero] at k0
    go_region_law (first | (refine step_call rfl 20 _ _ rfl #[.string key, .int .i64 (ch : Int), .string (d.extract 0 m)] (by kernel_rfl) _ (HSUM.out _) ?_; rintro v5 w5 ⟨hR5, hL5⟩; have hcv5 := run_string hR5) | (refine step_call rfl 27 _ _ rfl #[.string ⟨l.toArray⟩, .string (d.extract m d.size)] (by kernel_rfl) _ (HSAME.out _) ?_; rintro v6 w6 ⟨rfl, hL6⟩))
    all_goals
      go_wp2_with fail
      go_meet
      have hL7 := (below_quiet v 1).1.trans (hL5.trans (hL6.mono hL5.size))
      exact ⟨rfl, HL.out.below hL7 HL.out.size, HX.out.below hL7 HX.out.lt, HB.out.below hL7 HB.out.lt⟩
  case rest =>
    obtain ⟨rfl, hL, hX, hB⟩ := hcut
    have HL2 := Lib.hid hL; have HX2 := Lib.hid hX; have HB2 := Lib.hid hB
    clear hL hX hB HL HX HB HSUM HSAME
    have hcond : w.heap.size ∈ [g] ∨ w.heap.size ≤ w.heap.size := .inr (Nat.le_refl _)
    have hgn : g ≠ w.heap.size := Nat.ne_of_lt hgw
    cases r
    · have HOP2 := Lib.hid (show openIn key.data.toList s ch d = ⟨s, Cm.zero, ⟨#[]⟩, 170⟩ by rw [HOP.out]; rfl)
      have x0 := HX2.out.cell 0
      have x1 := HX2.out.cell 1
      have x2 := HX2.out.cell 2
      have x3 := HX2.out.cell 3
      simp only [List.getElem?_cons_zero, List.getElem?_cons_succ] at x0 x1 x2 x3
      have f0 := HX2.out.free 0
      have f1 := HX2.out.free 1
      have f2 := HX2.out.free 2
      have f3 := HX2.out.free 3
      go_wp2_with fail
      refine ret_cell_tmp2 rfl w.heap.size 24 Cm.zero.cells rfl ((((HX2.out.set 0 _).set 1 _).set 2 _).set 3 _) Try.underlying24 rfl (by kernel_rfl) rfl ?_
      rw [HOP2.out]
      exact ⟨rfl, ((((HL2.out.setCell (hcond) _).setCell (hcond) _).setCell (hcond) _).setCell (hcond) _), ((((HB2.out.set_far hgn _).set_far hgn _).set_far hgn _).set_far hgn _)⟩
    · have c2 := last_cell HB2.out ch h7
      unfold vu at c2
      by_cases hle : n.toNat ≤ (s.l ch).toNat
      · have d4 : decide (w64 n ≤ w64 (s.l ch)) = true := decide_eq_true (by unfold w64; omega)
        have HOP2 := Lib.hid (show openIn key.data.toList s ch d = ⟨s, Cm.zero, ⟨#[]⟩, 171⟩ by rw [HOP.out, if_neg (by simp), if_pos hle])
        clear hle
        go_wp2_with fail
        refine (HNUM.out _).mono ?_
        rintro e _ ⟨rfl, rfl⟩
        have x0 := HX2.out.cell 0
        have x1 := HX2.out.cell 1
        have x2 := HX2.out.cell 2
        have x3 := HX2.out.cell 3
        simp only [List.getElem?_cons_zero, List.getElem?_cons_succ] at x0 x1 x2 x3
        have f0 := HX2.out.free 0
        have f1 := HX2.out.free 1
        have f2 := HX2.out.free 2
        have f3 := HX2.out.free 3
        go_wp2_with fail
        refine ret_cell_tmp2 rfl w.heap.size 24 Cm.zero.cells rfl ((((HX2.out.set 0 _).set 1 _).set 2 _).set 3 _) Try.underlying24 rfl (by kernel_rfl) rfl ?_
        rw [HOP2.out]
        exact ⟨rfl, ((((HL2.out.setCell (hcond) _).setCell (hcond) _).setCell (hcond) _).setCell (hcond) _), ((((HB2.out.set_far hgn _).set_far hgn _).set_far hgn _).set_far hgn _)⟩
      · have d4 : decide (w64 n ≤ w64 (s.l ch)) = false := decide_eq_false (by unfold w64; omega)
        have HOP2 := Lib.hid (show openIn key.data.toList s ch d = ⟨s.take ch n, ⟨ch, n, ((d.data.toList.getD 8 0).toNat : Int), d.extract 9 m⟩, ⟨(textL (s.take ch n)).toArray⟩, 0⟩ by rw [HOP.out, if_neg (by simp), if_neg hle])
        have f2 := HB2.out.free (2 + ch)
        have f1 := HB2.out.free 1
        have c1 := HB2.out.cell 1
        simp only [Gs.cells, vu, List.getElem?_cons_zero, List.getElem?_cons_succ] at c1
        clear hle
        go_wp2_with fail
        refine (HNUM.out _).mono ?_
        rintro e _ ⟨rfl, rfl⟩
        go_upto_region 15 with fail
        have hone : IntKind.u64.wrap (w64 s.ser + 1) = w64 (s.ser + 1#64) := w64_add s.ser 1#64
        rw [hone]
        have hB3 : Blk ((wc.setCell ⟨g, 2 + ch, none⟩ (vu n)).setCell ⟨g, 1, none⟩ (vu (s.ser + 1#64))) g (.string key :: (s.take ch n).cells) 45 := by
          rw [← take_cells key s ch n h7]; exact (HB2.out.set _ _).set _ _
        refine gen_world (fun v => Keep [g] w v ∧ Blk v w.heap.size [.int .i64 0, .int .u64 0, .int .i64 0, .string ⟨#[]⟩] 24 ∧ Blk v g (.string key :: (s.take ch n).cells) 45) ⟨(HL2.out.setCell (.inl (by simp)) _).setCell (.inl (by simp)) _, (HX2.out.set_far (Ne.symm hgn) _).set_far (Ne.symm hgn) _, hB3⟩ ?_
        clear hB3 HL2 HX2 HB2 f1 f2 c1 c2 d4 hone
        rintro v2 ⟨hL, hX, hB⟩
        have HL := Lib.hid hL; have HX := Lib.hid hX; have HB := Lib.hid hB; clear hL hX hB
        obtain ⟨op, hop⟩ : ∃ op : Int, op = ((d.data.toList.getD 8 0).toNat : Int) := ⟨_, rfl⟩
        have hop2 : ((d[8]'(by omega)).toNat : Int) = op := by
          rw [hop, List.getD_eq_getElem?_getD, List.getElem?_eq_getElem (by simp; omega)]; rfl
        have hwo : IntKind.i64.wrap op = op := wrap_op op (d.data.toList.getD 8 0) hop
        obtain ⟨s2, hs2⟩ : ∃ s2, s2 = s.take ch n := ⟨_, rfl⟩
        rw [← hs2] at HB
        rw [← hop, ← hs2] at HOP2
        have HCL := Lib.hid (fun W => clone_new (d.extract 9 m) W (by simp; omega))
        clear hop hs2 HOP HNUM HMI HM HK
        go_cut [10] (fun p wx => p = .int .u64 (w64 n) ∧ Keep [g] w wx ∧ Blk wx w.heap.size [.int .i64 (ch : Int), .int .u64 (w64 n), .int .i64 op, .string (d.extract 9 m)] 24 ∧ Blk wx g (.string key :: s2.cells) 45)
        case first =>
          have x0 := HX.out.cell 0
          have x1 := HX.out.cell 1
          have x2 := HX.out.cell 2
          have x3 := HX.out.cell 3
          simp only [List.getElem?_cons_zero, List.getElem?_cons_succ] at x0 x1 x2 x3
          have f0 := HX.out.free 0
          have f1 := HX.out.free 1
          have f2 := HX.out.free 2
          have f3 := HX.out.free 3
          have h8 : (8 : Int) < d.size := by omega
          have h9 : (9 : Int) ≤ m := by omega
          have hmd2 : (m : Int) ≤ d.size := by omega
          go_region_law (refine step_call rfl 25 _ _ rfl #[.string (d.extract 9 m)] (by kernel_rfl) _ (HCL.out _) ?_; rintro v5 w5 ⟨rfl, hL5⟩; have hX5 := HX.out.drew.below hL5 HX.out.lt; have y0 := hX5.cell 0; have y1 := hX5.cell 1; have y2 := hX5.cell 2; have y3 := hX5.cell 3; have z0 := hX5.free 0; have z1 := hX5.free 1; have z2 := hX5.free 2; have z3 := hX5.free 3; simp only [List.getElem?_cons_zero, List.getElem?_cons_succ] at y0 y1 y2 y3)
          all_goals
            go_wp2_with fail
            go_meet
            try rw [hwo]
            have hL9 := HL.out.below ((below_quiet v2 1).1.trans hL5) HL.out.size
            have hB9 := HB.out.below ((below_quiet v2 1).1.trans hL5) HB.out.lt
            exact ⟨rfl, ((((hL9.setCell (hcond) _).setCell (hcond) _).setCell (hcond) _).setCell (hcond) _), ((((hX5.set 0 _).set 1 _).set 2 _).set 3 _), (((hB9.set_far hgn _).set_far hgn _).set_far hgn _).set_far hgn _⟩
        case rest =>
          obtain ⟨rfl, hL, hX, hB⟩ := hcut
          have HL3 := Lib.hid hL; have HX3 := Lib.hid hX; have HB3 := Lib.hid hB
          have hB4 := hB
          simp only [Gs.cells, vu] at hB4
          have HB4 := Lib.hid hB4
          have HT := Lib.hid (fun W => text_new s2 W)
          clear hL hX hB hB4 HL HX HB HCL hop2 hwo
          have x0 := HX3.out.cell 0
          have x1 := HX3.out.cell 1
          have x2 := HX3.out.cell 2
          have x3 := HX3.out.cell 3
          simp only [List.getElem?_cons_zero, List.getElem?_cons_succ] at x0 x1 x2 x3
          have f0 := HX3.out.free 0
          have f1 := HX3.out.free 1
          have f2 := HX3.out.free 2
          have f3 := HX3.out.free 3
          have b0 := HB4.out.cell 0
          have b1 := HB4.out.cell 1
          have b2 := HB4.out.cell 2
          have b3 := HB4.out.cell 3
          have b4 := HB4.out.cell 4
          have b5 := HB4.out.cell 5
          have b6 := HB4.out.cell 6
          have b7 := HB4.out.cell 7
          have b8 := HB4.out.cell 8
          have b9 := HB4.out.cell 9
          simp only [List.getElem?_cons_zero, List.getElem?_cons_succ] at b0 b1 b2 b3 b4 b5 b6 b7 b8 b9
          go_upto_region 16 with fail
          go_region_law (refine step_call rfl 29 _ _ rfl #[s2.val] (by kernel_rfl) _ (HT.out _) ?_; rintro v5 w5 ⟨rfl, hL5⟩; have hX5 := HX3.out.drew.below hL5 HX3.out.lt; have y0 := hX5.cell 0; have y1 := hX5.cell 1; have y2 := hX5.cell 2; have y3 := hX5.cell 3; have z0 := hX5.free 0; have z1 := hX5.free 1; have z2 := hX5.free 2; have z3 := hX5.free 3; simp only [List.getElem?_cons_zero, List.getElem?_cons_succ] at y0 y1 y2 y3)
          all_goals
            go_wp2_with fail
            have hL9 := HL3.out.below ((below_quiet wc 1).1.trans hL5) HL3.out.size
            have hB9 := HB3.out.below ((below_quiet wc 1).1.trans hL5) HB3.out.lt
            refine ret_cell_tmp2 rfl w.heap.size 24 [.int .i64 (ch : Int), .int .u64 (w64 n), .int .i64 op, .string (d.extract 9 m)] rfl ((((hX5.set 0 _).set 1 _).set 2 _).set 3 _) Try.underlying24 rfl (by kernel_rfl) rfl ?_
            rw [HOP2.out]
            exact ⟨rfl, ((((hL9.setCell (hcond) _).setCell (hcond) _).setCell (hcond) _).setCell (hcond) _), (((hB9.set_far hgn _).set_far hgn _).set_far hgn _).set_far hgn _⟩
end Go.Proofs.Ytincoocagfegfaa
