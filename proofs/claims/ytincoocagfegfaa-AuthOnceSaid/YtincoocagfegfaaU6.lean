/- What is proved here: the walks of saved, none, Last and New of guards. -/
import Derived.Test.YtincoocagfegfaaU5
import Derived.Test.YtincoocagfegfaaRet
set_option linter.unusedVariables false
set_option linter.unusedSimpArgs false
namespace Go.Proofs.Ytincoocagfegfaa
open Go.RowKit
/-- The state that a text of 76 bytes would be. -/
def readL (t : List UInt8) : Gs := ⟨num64 (t.take 8), fun i => num64 ((t.drop (8 + 8 * i)).take 8)⟩
def Gs.zero : Gs := ⟨0#64, fun _ => 0#64⟩
/-- Is a text a saved one? -/
def isSaved (t : List UInt8) : Bool := decide (t.length = 76) && (textL (readL t) == t)
def savedV (t : List UInt8) : Value := if t.length = 76 then .tuple #[(readL t).val, .bool (textL (readL t) == t)] else .tuple #[Gs.zero.val, .bool false]
/-- A state of which the first k counters are read. -/
def Gs.part (s : Gs) (k : Nat) : Gs := ⟨s.ser, fun i => if i < k then s.l i else 0#64⟩
theorem part_set (s : Gs) (k : Nat) (h : k < 8) : (s.part k).cells.set (1 + k) (vu (s.l k)) = (s.part (k + 1)).cells := by
  match k, h with
  | 0, _ => simp [Gs.part, Gs.cells]
  | 1, _ => simp [Gs.part, Gs.cells]
  | 2, _ => simp [Gs.part, Gs.cells]
  | 3, _ => simp [Gs.part, Gs.cells]
  | 4, _ => simp [Gs.part, Gs.cells]
  | 5, _ => simp [Gs.part, Gs.cells]
  | 6, _ => simp [Gs.part, Gs.cells]
  | 7, _ => simp [Gs.part, Gs.cells]
theorem part_all (s : Gs) : (s.part 8).cells = s.cells := by simp [Gs.part, Gs.cells]
theorem part_zero (s : Gs) : Gs.zero.cells.set 0 (vu s.ser) = (s.part 0).cells := by simp [Gs.part, Gs.cells, Gs.zero]
theorem part0_cells (s : Gs) : (s.part 0).cells = [vu s.ser, .int .u64 0, .int .u64 0, .int .u64 0, .int .u64 0, .int .u64 0, .int .u64 0, .int .u64 0, .int .u64 0] := by simp [Gs.part, Gs.cells, vu, w64]
theorem part_cell (s : Gs) (k i : Nat) (h : i < 9) : ∃ u, (s.part k).cells[i]? = some u := by
  have : i < (s.part k).cells.length := h
  exact ⟨_, List.getElem?_eq_getElem this⟩
set_option maxHeartbeats 2000000 in
set_option maxRecDepth 100000 in
theorem anone_nil (w : World) : Calls Try.prog 26 #[.pointer none] w fun e w' => e = .returned (.bool true) ∧ w = w' := by
  go_enter Try.func26, Try.ntmps26
  go_wp2_with fail
  go_ret
  exact ⟨rfl, rfl⟩
/-- A guard in memory. -/
def Gd (W : World) (g : Nat) (key : ByteArray) (s : Gs) : Prop := Blk W g (.string key :: s.cells) 45
set_option maxHeartbeats 2000000 in
set_option maxRecDepth 100000 in
theorem anone_any (g : Nat) (key : ByteArray) (s : Gs) (w : World) (hB : Gd w g key s) : Calls Try.prog 26 #[.pointer (some ⟨g, 0, none⟩)] w fun e w' => e = .returned (.bool key.toList.isEmpty) ∧ w = w' := by
  have c0 := Blk.cell hB 0
  simp only [List.getElem?_cons_zero] at c0
  clear hB
  go_enter Try.func26, Try.ntmps26
  go_wp2_with fail
  go_ret
  exact ⟨rfl, rfl⟩
theorem not_empty (d : ByteArray) (h : d.size = 16) : d.toList.isEmpty = false := by
  rw [toList_data]
  cases hd : d.data.toList with
  | nil =>
    have : d.data.toList.length = d.size := by simp
    rw [hd] at this; simp at this; omega
  | cons a l => rfl
theorem extract_list (t : ByteArray) (a b : Nat) : (t.extract a b).data.toList = (t.data.toList.drop a).take (b - a) := by
  simp [ByteArray.data_extract, List.drop_take]
set_option maxHeartbeats 4000000 in
set_option maxRecDepth 100000 in
theorem asaved_any (t : ByteArray) (w : World) (ht : t.size ≤ 1000000) : Calls Try.prog 23 #[.string t] w fun e w' => e = .returned (savedV t.data.toList) ∧ Below w.heap.size w w' := by
  have HX := Lib.hid (Blk.new w Gs.zero.cells 43)
  have HL := Lib.hid ((Below.refl w.heap.size w).alloc (Nat.le_refl _) (Obj.cells Gs.zero.cells.toArray 43))
  by_cases h76 : t.size = 76
  case neg =>
    have d0 : ((t.size : Int) != 76) = true := by rw [bne_iff_ne]; omega
    have hv : savedV t.data.toList = .tuple #[Gs.zero.val, .bool false] := by unfold savedV; rw [if_neg (by simpa using h76)]
    have HV := Lib.hid hv
    clear h76 hv
    have f0 := HX.out.free 0
    have f1 := HX.out.free 1
    have f2 := HX.out.free 2
    have f3 := HX.out.free 3
    have f4 := HX.out.free 4
    have f5 := HX.out.free 5
    have f6 := HX.out.free 6
    have f7 := HX.out.free 7
    have f8 := HX.out.free 8
    simp only [Gs.cells, Gs.zero] at HX HL
    have x0 := HX.out.cell 0
    have x1 := HX.out.cell 1
    have x2 := HX.out.cell 2
    have x3 := HX.out.cell 3
    have x4 := HX.out.cell 4
    have x5 := HX.out.cell 5
    have x6 := HX.out.cell 6
    have x7 := HX.out.cell 7
    have x8 := HX.out.cell 8
    simp only [List.getElem?_cons_zero, List.getElem?_cons_succ] at x0 x1 x2 x3 x4 x5 x6 x7 x8
    go_enter Try.func23, Try.ntmps23
    go_wp2_with fail
    refine ret_cell_tmp rfl w.heap.size 43 Gs.zero.cells rfl HX.out Try.underlying43 rfl (by kernel_rfl) rfl ?_
    exact ⟨by rw [HV.out]; rfl, HL.out⟩
  · have d0 : ((t.size : Int) != 76) = false := by rw [h76]; rfl
    obtain ⟨s, hs⟩ : ∃ s, s = readL t.data.toList := ⟨_, rfl⟩
    have hv : savedV t.data.toList = .tuple #[s.val, .bool (textL s == t.data.toList)] := by unfold savedV; rw [if_pos (by simpa using h76), hs]
    have hn0 : s.ser = num64 (t.extract 0 8).data.toList := by rw [hs, extract_list]; simp [readL]
    have hnk : ∀ k, s.l k = num64 (t.extract (8 + 8 * k) (16 + 8 * k)).data.toList := fun k => by rw [hs, extract_list, show 16 + 8 * k - (8 + 8 * k) = 8 by omega]; rfl
    have HN0 := Lib.hid (fun w => anumber_any (t.extract 0 8) w (by simp; omega))
    rw [← hn0] at HN0
    have HNK := Lib.hid (fun k w => anumber_any (t.extract (8 + 8 * k) (16 + 8 * k)) w (by simp; omega))
    simp only [← hnk] at HNK
    have HV := Lib.hid hv
    have HT := Lib.hid (fun w => atext_any s w)
    have hts : 76 ≤ t.size := by omega
    have H76 := Lib.hid h76
    clear h76 hv hs hn0 hnk ht
    have f0 := HX.out.free 0
    have f1 := HX.out.free 1
    have f2 := HX.out.free 2
    have f3 := HX.out.free 3
    have f4 := HX.out.free 4
    have f5 := HX.out.free 5
    have f6 := HX.out.free 6
    have f7 := HX.out.free 7
    have f8 := HX.out.free 8
    have HZ := Lib.hid HX.out
    simp only [Gs.cells, Gs.zero] at HX HL
    have x0 := HX.out.cell 0
    have x1 := HX.out.cell 1
    have x2 := HX.out.cell 2
    have x3 := HX.out.cell 3
    have x4 := HX.out.cell 4
    have x5 := HX.out.cell 5
    have x6 := HX.out.cell 6
    have x7 := HX.out.cell 7
    have x8 := HX.out.cell 8
    simp only [List.getElem?_cons_zero, List.getElem?_cons_succ] at x0 x1 x2 x3 x4 x5 x6 x7 x8
    go_enter Try.func23, Try.ntmps23
    go_wp2_with fail
    refine (HN0.out _).mono ?_
    rintro e _ ⟨rfl, rfl⟩
    go_wp2_with fail
    go_loopw [13] (fun i wr => ∃ k : Nat, k ≤ 8 ∧ i = .int .i64 k ∧ Below w.heap.size w wr ∧ Blk wr w.heap.size (s.part k).cells 43) (fun i _ => 8 - (intOf i).toNat)
    case atStart => exact ⟨0, by omega, rfl, (Below.refl w.heap.size w).alloc (Nat.le_refl _) _, by rw [part0_cells]; exact Blk.new _ _ _⟩
    case round =>
      clear HX HL HZ HN0 x0 x1 x2 x3 x4 x5 x6 x7 x8 f0 f1 f2 f3 f4 f5 f6 f7 f8
      obtain ⟨k, hk, rfl, hL, hB⟩ := hrel
      have HL := Lib.hid hL; have HB := Lib.hid hB; clear hL hB
      by_cases hlt : k < 8
      · obtain ⟨u, hu⟩ := part_cell s k (1 + k) (by omega)
        have c0 := (HB.out.cell (1 + k)).trans hu
        have f0 := HB.out.free (1 + k)
        clear hu
        go_wp2_with fail
        refine (HNK.out k _).mono ?_
        rintro e _ ⟨rfl, rfl⟩
        go_wp2_with fail
        go_roundw
        case rel => exact ⟨k + 1, by omega, by go_num, HL.out.setCell (Nat.le_refl _) _, by rw [← part_set s k hlt]; exact HB.out.set (1 + k) _⟩
        case measure => simp [intOf]; omega
      · obtain rfl : k = 8 := by omega
        have hB := HB.out
        rw [part_all] at hB
        have HB2 := Lib.hid hB
        simp only [Gs.cells, vu] at hB
        have HB3 := Lib.hid hB
        clear hB HB
        have x0 := HB3.out.cell 0
        have x1 := HB3.out.cell 1
        have x2 := HB3.out.cell 2
        have x3 := HB3.out.cell 3
        have x4 := HB3.out.cell 4
        have x5 := HB3.out.cell 5
        have x6 := HB3.out.cell 6
        have x7 := HB3.out.cell 7
        have x8 := HB3.out.cell 8
        simp only [List.getElem?_cons_zero, List.getElem?_cons_succ] at x0 x1 x2 x3 x4 x5 x6 x7 x8
        have f0 := HB3.out.free 0
        have f1 := HB3.out.free 1
        have f2 := HB3.out.free 2
        have f3 := HB3.out.free 3
        have f4 := HB3.out.free 4
        have f5 := HB3.out.free 5
        have f6 := HB3.out.free 6
        have f7 := HB3.out.free 7
        have f8 := HB3.out.free 8
        have HT2 := Lib.hid (fun W => (HT.out W).mono (fun e w' h => (⟨_, h.1, rfl, h.2⟩ : ∃ v, e = .returned v ∧ (v = strOf (textL s) ∧ Below W.heap.size W w'))))
        obtain ⟨tx, htx⟩ : ∃ tx : ByteArray, tx = ⟨(textL s).toArray⟩ := ⟨_, rfl⟩
        have heq : (textL s == t.data.toList) = (tx.toList == t.toList) := by rw [htx, toList_data, toList_data]
        have HEQ := Lib.hid heq
        rw [show strOf (textL s) = .string tx by rw [htx]; rfl] at HT2
        clear htx heq
        go_upto_region 9 with fail
        go_region_law (refine step_call rfl 29 _ _ rfl #[s.val] (by kernel_rfl) _ (HT2.out _) ?_; rintro v5 w5 ⟨rfl, hL5⟩; have hB5 := HB3.out.drew.below hL5 HB3.out.lt; have y0 := hB5.cell 0; have y1 := hB5.cell 1; have y2 := hB5.cell 2; have y3 := hB5.cell 3; have y4 := hB5.cell 4; have y5 := hB5.cell 5; have y6 := hB5.cell 6; have y7 := hB5.cell 7; have y8 := hB5.cell 8; have g0 := hB5.free 0; have g1 := hB5.free 1; have g2 := hB5.free 2; have g3 := hB5.free 3; have g4 := hB5.free 4; have g5 := hB5.free 5; have g6 := hB5.free 6; have g7 := hB5.free 7; have g8 := hB5.free 8; simp only [List.getElem?_cons_zero, List.getElem?_cons_succ] at y0 y1 y2 y3 y4 y5 y6 y7 y8)
        all_goals
          go_wp2_with fail
          have hL9 := (HL.out.trans ((below_quiet wr 1).1.mono HL.out.size)).trans (hL5.mono (by simpa using HL.out.size))
          refine ret_cell_tmp rfl w.heap.size 43 s.cells rfl (((((((((hB5.set 0 _).set 1 _).set 2 _).set 3 _).set 4 _).set 5 _).set 6 _).set 7 _).set 8 _) Try.underlying43 rfl (by kernel_rfl) rfl ?_
          exact ⟨by rw [HV.out, HEQ.out]; rfl, (((((((((hL9.setCell (Nat.le_refl _) _).setCell (Nat.le_refl _) _).setCell (Nat.le_refl _) _).setCell (Nat.le_refl _) _).setCell (Nat.le_refl _) _).setCell (Nat.le_refl _) _).setCell (Nat.le_refl _) _).setCell (Nat.le_refl _) _).setCell (Nat.le_refl _) _)⟩
end Go.Proofs.Ytincoocagfegfaa
