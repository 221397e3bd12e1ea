/- What is proved here: a part of the proof of TopLink (texts T6 F4). No condition. -/
import Derived.BigQuiet
import Derived.OwnWalk
import Derived.Test.YtgopighmifpefaaGreatDoorPart06
set_option linter.unusedVariables false
set_option linter.unusedSimpArgs false
namespace Go.Proofs.YtgopighmifpefaaGreatDoor
section
open Go.RowKit
def out3 (a : Bool) (n : Int) (b : Bool) : Value := .tuple #[.bool a, .int .i64 n, .bool b]
def dataV (l : List UInt8) : Bool × Int × Bool :=
  match l with
  | [a] => if a = 0 then (true, 0, true) else (false, 0, false)
  | [a, b, n] => if a = 130 ∧ b = 0 then (false, n.toNat, true) else (false, 0, false)
  | _ => (false, 0, false)
def Tc.ctl3 (x : Tc) : Bool × Int × Bool := if x.good && x.ctl then dataV x.data.data.toList else (false, 0, false)
def Tc.ctlV (x : Tc) : Value := out3 x.ctl3.1 x.ctl3.2.1 x.ctl3.2.2
set_option maxHeartbeats 1000000 in
set_option maxRecDepth 100000 in
theorem hasPrefix_no (s : ByteArray) (w : World) (h : s.size < 2) : Calls Tryz.prog 107 #[.string s, .string ⟨#[130, 0]⟩] w fun e w' => e = .returned (.bool false) ∧ w = w' := by
  go_enter Tryz.func107, Tryz.ntmps107
  go_wp2_with fail
  go_ret
  exact ⟨rfl, rfl⟩
set_option maxHeartbeats 1000000 in
set_option maxRecDepth 100000 in
theorem hasPrefix_eq (s : ByteArray) (w : World) (b : Bool) (h : 2 ≤ s.size) (hb : ((s.extract 0 2).toList == [130, 0]) = b) : Calls Tryz.prog 107 #[.string s, .string ⟨#[130, 0]⟩] w fun e w' => e = .returned (.bool b) ∧ w = w' := by
  go_enter Tryz.func107, Tryz.ntmps107
  go_wp2_with fail
  go_ret
  exact ⟨rfl, rfl⟩
theorem ex2_list (s : ByteArray) : (s.extract 0 2).toList = s.data.toList.take 2 := by
  rw [toList_data]; simp [List.extract_eq_take_drop]
theorem hasPrefix_any (s : ByteArray) (w : World) : Calls Tryz.prog 107 #[.string s, .string ⟨#[130, 0]⟩] w fun e w' => e = .returned (.bool (decide (s.data.toList.take 2 = [130, 0]))) ∧ w = w' := by
  by_cases h : s.size < 2
  · have e : decide (s.data.toList.take 2 = [130, 0]) = false := by
      rw [decide_eq_false_iff_not]; intro e
      have := congrArg List.length e
      simp at this; omega
    rw [e]
    exact hasPrefix_no s w h
  · exact hasPrefix_eq s w _ (by omega) (by rw [ex2_list]; rw [Bool.eq_iff_iff]; simp)
set_option maxHeartbeats 1000000 in
set_option maxRecDepth 100000 in
theorem scut_no (s : ByteArray) (w : World) (h : s.data.toList.take 2 ≠ [130, 0]) : Calls Tryz.prog 114 #[.string s, .string ⟨#[130, 0]⟩] w fun e w' => e = .returned (.tuple #[.string s, .bool false]) ∧ w = w' := by
  have hp := hasPrefix_any s w
  rw [decide_eq_false h] at hp
  have HP := Lib.hid hp; clear hp h
  go_enter Tryz.func114, Tryz.ntmps114
  go_wp2_with fail
  refine HP.out.mono ?_
  rintro e w1 ⟨rfl, rfl⟩
  go_wp2_with fail
  go_ret2
  exact ⟨rfl, rfl⟩
set_option maxHeartbeats 1000000 in
set_option maxRecDepth 100000 in
theorem scut_yes (s : ByteArray) (w : World) (h : s.data.toList.take 2 = [130, 0]) : Calls Tryz.prog 114 #[.string s, .string ⟨#[130, 0]⟩] w fun e w' => e = .returned (.tuple #[.string (s.extract 2 s.size), .bool true]) ∧ w = w' := by
  have hp := hasPrefix_any s w
  rw [decide_eq_true h] at hp
  have h2 : 2 ≤ s.size := by have := congrArg List.length h; simp at this; omega
  have HP := Lib.hid hp; clear hp h
  go_enter Tryz.func114, Tryz.ntmps114
  go_wp2_with fail
  refine HP.out.mono ?_
  rintro e w1 ⟨rfl, rfl⟩
  go_wp2_with fail
  go_ret2
  exact ⟨rfl, rfl⟩
set_option maxHeartbeats 1000000 in
set_option maxRecDepth 100000 in
theorem cut_no (s : ByteArray) (w : World) (h : s.data.toList.take 2 ≠ [130, 0]) : Calls Tryz.prog 100 #[.string s, .string ⟨#[130, 0]⟩] w fun e w' => e = .returned (.tuple #[.string s, .bool false]) ∧ w = w' := by
  have HP := Lib.hid (scut_no s w h); clear h
  go_enter Tryz.func100, Tryz.ntmps100
  go_wp2_with fail
  refine HP.out.mono ?_
  rintro e w1 ⟨rfl, rfl⟩
  go_wp2_with fail
  go_ret2
  exact ⟨rfl, rfl⟩
set_option maxHeartbeats 1000000 in
set_option maxRecDepth 100000 in
theorem cut_yes (s : ByteArray) (w : World) (h : s.data.toList.take 2 = [130, 0]) : Calls Tryz.prog 100 #[.string s, .string ⟨#[130, 0]⟩] w fun e w' => e = .returned (.tuple #[.string (s.extract 2 s.size), .bool true]) ∧ w = w' := by
  have HP := Lib.hid (scut_yes s w h); clear h
  go_enter Tryz.func100, Tryz.ntmps100
  go_wp2_with fail
  refine HP.out.mono ?_
  rintro e w1 ⟨rfl, rfl⟩
  go_wp2_with fail
  go_ret2
  exact ⟨rfl, rfl⟩
theorem three_of (d : ByteArray) (h1 : d.data.toList.take 2 = [130, 0]) (h3 : d.size = 3) : ∃ n, d = ⟨#[130, 0, n]⟩ := by
  obtain ⟨⟨l⟩⟩ := d
  match l, h1, h3 with
  | [a, b, n], h1, _ =>
    simp only [List.take_succ_cons, List.take_zero, List.cons.injEq, and_true] at h1
    exact ⟨n, by rw [h1.1, h1.2]⟩
theorem wrap64_byte (c : UInt8) : wrap64 (c.toNat : Int) = (c.toNat : Int) := by have := c.toNat_lt; unfold wrap64; omega
theorem dataV_three (n : UInt8) : dataV [130, 0, n] = (false, (n.toNat : Int), true) := by simp [dataV]
theorem dataV_else (l : List UInt8) (h0 : l ≠ [0]) (h1 : ¬ (l.take 2 = [130, 0] ∧ l.length = 3)) : dataV l = (false, 0, false) := by
  match l with
  | [] => rfl
  | [a] => simp only [dataV]; rw [if_neg (fun e => h0 (by rw [e]))]
  | [a, b] => rfl
  | [a, b, n] => simp only [dataV]; rw [if_neg (fun e => h1 ⟨by rw [e.1, e.2]; rfl, rfl⟩)]
  | _ :: _ :: _ :: _ :: _ => rfl
set_option maxHeartbeats 4000000 in
set_option maxRecDepth 100000 in
theorem Control_any (x : Tc) (w : World) : Calls Tryz.prog 71 #[x.val] w fun e w' => e = .returned x.ctlV ∧ Below w.heap.size w w' := by
  have hv := valid_any x
  obtain ⟨c, ch, b, k, s, d⟩ := x
  have HB := Lib.hid (Blk.new w (Tc.mk c ch b k s d).cells 37)
  have HL0 := Lib.hid ((Below.refl w.heap.size w).alloc (Nat.le_refl _) (Obj.cells #[.int .i64 c, .int .i64 ch, .bool b, .bool k, .int .i64 s, .string d] 37))
  unfold Tc.ctlV Tc.ctl3
  obtain ⟨g, hg⟩ : ∃ g, g = (Tc.mk c ch b k s d).good := ⟨_, rfl⟩
  rw [← hg] at hv ⊢
  have hd1 : g = true → 1 ≤ d.size := fun h => ((Tc.good_iff _).1 (hg ▸ h)).1.2.2.2.2.2.2.1
  simp only [Tc.val] at hv ⊢
  have HV := Lib.hid hv; clear hv hg
  by_cases hgk : (g && k) = true
  case neg =>
    rw [if_neg hgk]
    cases g <;> cases k
    all_goals first | (exact absurd rfl hgk) | skip
    all_goals
      clear hgk
      go_enter Tryz.func71, Tryz.ntmps71
      go_wp2_with fail
      refine (HV.out _).mono ?_
      rintro e w1 ⟨rfl, hL1⟩
      have HL1 := Lib.hid (HL0.out.trans (hL1.mono HL0.out.size))
      have HB1 := Lib.hid (HB.out.below hL1 (by simp)); clear hL1
      have c0 := HB1.out.cell 0
      have c1 := HB1.out.cell 1
      have c2 := HB1.out.cell 2
      have c3 := HB1.out.cell 3
      have c4 := HB1.out.cell 4
      have c5 := HB1.out.cell 5
      simp only [Tc.cells, List.getElem?_cons_zero, List.getElem?_cons_succ] at c0 c1 c2 c3 c4 c5
      go_wp2_with fail
      refine bodyPost_ret (results_tmp3 rfl _ _ _) rfl ?_
      exact ⟨rfl, HL1.out⟩
  rw [if_pos hgk]
  obtain ⟨rfl, rfl⟩ : g = true ∧ k = true := by simpa using hgk
  have hd1 := hd1 rfl
  clear hgk
  by_cases h0 : d.data.toList = [0]
  · have hd0 : d = ⟨#[0]⟩ := by cases d; simp only at h0; congr 1; exact Array.toList_inj.1 h0
    subst hd0
    go_enter Tryz.func71, Tryz.ntmps71
    go_wp2_with fail
    refine (HV.out _).mono ?_
    rintro e w1 ⟨rfl, hL1⟩
    have HL1 := Lib.hid (HL0.out.trans (hL1.mono HL0.out.size))
    have HB1 := Lib.hid (HB.out.below hL1 (by simp)); clear hL1
    have c0 := HB1.out.cell 0
    have c1 := HB1.out.cell 1
    have c2 := HB1.out.cell 2
    have c3 := HB1.out.cell 3
    have c4 := HB1.out.cell 4
    have c5 := HB1.out.cell 5
    simp only [Tc.cells, List.getElem?_cons_zero, List.getElem?_cons_succ] at c0 c1 c2 c3 c4 c5
    go_wp2_with fail
    refine bodyPost_ret (results_tmp3 rfl _ _ _) rfl ?_
    exact ⟨rfl, HL1.out⟩
  by_cases h1 : d.data.toList.take 2 = [130, 0]
  · by_cases h3 : d.size = 3
    · obtain ⟨n, hn⟩ : ∃ n, d = ⟨#[130, 0, n]⟩ := three_of d h1 h3
      subst hn
      clear h0 h1 h3 hd1
      have hc := fun w => cut_yes ⟨#[130, 0, n]⟩ w rfl
      rw [show (ByteArray.mk #[130, 0, n]).extract 2 (ByteArray.mk #[130, 0, n]).size = ⟨#[n]⟩ from rfl] at hc
      have HC := Lib.hid hc; clear hc
      go_enter Tryz.func71, Tryz.ntmps71
      go_wp2_with fail
      refine (HV.out _).mono ?_
      rintro e w1 ⟨rfl, hL1⟩
      have HL1 := Lib.hid (HL0.out.trans (hL1.mono HL0.out.size))
      have HB1 := Lib.hid (HB.out.below hL1 (by simp)); clear hL1
      have c0 := HB1.out.cell 0
      have c1 := HB1.out.cell 1
      have c2 := HB1.out.cell 2
      have c3 := HB1.out.cell 3
      have c4 := HB1.out.cell 4
      have c5 := HB1.out.cell 5
      simp only [Tc.cells, List.getElem?_cons_zero, List.getElem?_cons_succ] at c0 c1 c2 c3 c4 c5
      go_wp2_with fail
      refine (HC.out _).mono ?_
      rintro e w2 ⟨rfl, rfl⟩
      go_wp2_with fail
      go_quiet (fail)
      go_wp2_with fail
      refine bodyPost_ret (results_tmp3 rfl _ _ _) rfl ?_
      refine ⟨?_, HL1.out.trans ((below_quiet w1 _).1.mono HL1.out.size)⟩
      have e : dataV (ByteArray.mk #[130, 0, n]).data.toList = (false, (n.toNat : Int), true) := dataV_three n
      rw [e]
      have e2 := wrap64_byte n
      show _ = Ending.returned (.tuple #[.bool false, .int .i64 (n.toNat : Int), .bool true])
      rw [← e2]
      rfl
    · have hnv : dataV d.data.toList = (false, 0, false) := dataV_else _ h0 (fun h => h3 (by simpa using h.2))
      have hf0 : (d.toList == [0]) = false := by rw [toList_data]; simpa using h0
      rw [hnv]
      have h2 : 2 ≤ d.size := by have := congrArg List.length h1; simp at this; omega
      clear h0 hnv
      have hc := fun w => cut_yes d w h1
      obtain ⟨sx, hsx⟩ : ∃ sx, sx = d.extract 2 d.size := ⟨_, rfl⟩
      have hs1 : ((sx.size : Int) == 1) = false := by rw [hsx]; simp; omega
      rw [← hsx] at hc
      have HC := Lib.hid hc; clear hc hsx h1 h3
      go_enter Tryz.func71, Tryz.ntmps71
      go_wp2_with fail
      refine (HV.out _).mono ?_
      rintro e w1 ⟨rfl, hL1⟩
      have HL1 := Lib.hid (HL0.out.trans (hL1.mono HL0.out.size))
      have HB1 := Lib.hid (HB.out.below hL1 (by simp)); clear hL1
      have c0 := HB1.out.cell 0
      have c1 := HB1.out.cell 1
      have c2 := HB1.out.cell 2
      have c3 := HB1.out.cell 3
      have c4 := HB1.out.cell 4
      have c5 := HB1.out.cell 5
      simp only [Tc.cells, List.getElem?_cons_zero, List.getElem?_cons_succ] at c0 c1 c2 c3 c4 c5
      go_wp2_with fail
      refine (HC.out _).mono ?_
      rintro e w2 ⟨rfl, rfl⟩
      go_wp2_with fail
      refine bodyPost_ret (results_tmp3 rfl _ _ _) rfl ?_
      exact ⟨rfl, HL1.out⟩
  · have hnv : dataV d.data.toList = (false, 0, false) := dataV_else _ h0 (fun h => h1 h.1)
    have hf0 : (d.toList == [0]) = false := by rw [toList_data]; simpa using h0
    rw [hnv]
    clear h0 hnv
    have hc := fun w => cut_no d w h1
    have HC := Lib.hid hc; clear hc h1
    go_enter Tryz.func71, Tryz.ntmps71
    go_wp2_with fail
    refine (HV.out _).mono ?_
    rintro e w1 ⟨rfl, hL1⟩
    have HL1 := Lib.hid (HL0.out.trans (hL1.mono HL0.out.size))
    have HB1 := Lib.hid (HB.out.below hL1 (by simp)); clear hL1
    have c0 := HB1.out.cell 0
    have c1 := HB1.out.cell 1
    have c2 := HB1.out.cell 2
    have c3 := HB1.out.cell 3
    have c4 := HB1.out.cell 4
    have c5 := HB1.out.cell 5
    simp only [Tc.cells, List.getElem?_cons_zero, List.getElem?_cons_succ] at c0 c1 c2 c3 c4 c5
    go_wp2_with fail
    refine (HC.out _).mono ?_
    rintro e w2 ⟨rfl, rfl⟩
    go_wp2_with fail
    refine bodyPost_ret (results_tmp3 rfl _ _ _) rfl ?_
    exact ⟨rfl, HL1.out⟩
end
section
open Go.RowKit
section
/-- The automaton. -/
structure Fm where
  craft : Int
  half : Int
  st : Wd
def Fm.cells (f : Fm) : List Value := [.int .i64 f.craft, .int .i64 f.half, .int .i64 f.st.chan, .bool f.st.lockout, .bool f.st.wait, .bool f.st.retx, .int .i64 f.st.bypd, .int .i64 f.st.next]
def Wd.zero : Wd := ⟨0, false, false, false, 0, 0⟩
set_option maxHeartbeats 1000000 in
set_option maxRecDepth 100000 in
theorem none_any (f : Fm) (g : Nat) (w : World) (b : Bool) (hb : (f.half == 0) = b) (hB : Blk w g f.cells 80) : Calls Tryz.prog 27 #[.pointer (some ⟨g, 0, none⟩)] w fun e w' => e = .returned (.bool b) ∧ w = w' := by
  have c1 := hB.cell 1
  simp only [Fm.cells, List.getElem?_cons_zero, List.getElem?_cons_succ] at c1
  go_enter Tryz.func27, Tryz.ntmps27
  go_wp2_with fail
  go_ret
  exact ⟨rfl, rfl⟩
set_option maxHeartbeats 1000000 in
set_option maxRecDepth 100000 in
theorem State_any (f : Fm) (g : Nat) (w : World) (hh : f.half ≠ 0) (hB : Blk w g f.cells 80) : Calls Tryz.prog 69 #[.pointer (some ⟨g, 0, none⟩)] w fun e w' => e = .returned f.st.val ∧ Below w.heap.size w w' := by
  obtain ⟨cr, h, ⟨ch, lo, wa, re, by_, nx⟩⟩ := f
  have HL0 := Lib.hid ((Below.refl w.heap.size w).alloc (Nat.le_refl _) (Obj.cells Wd.zero.cells.toArray 78))
  have HZ := Lib.hid (Blk.new w Wd.zero.cells 78)
  have HB := Lib.hid (hB.alloc (Obj.cells Wd.zero.cells.toArray 78)); clear hB
  have hn := Lib.hid ((none_any ⟨cr, h, ⟨ch, lo, wa, re, by_, nx⟩⟩ g _ false (by simpa using hh) HB.out).mono (fun e w' h => (⟨h.1, h.2 ▸ Below.refl _ _⟩ : e = .returned (.bool false) ∧ Below (w.alloc (Obj.cells Wd.zero.cells.toArray 78)).heap.size (w.alloc (Obj.cells Wd.zero.cells.toArray 78)) w')))
  go_enter Tryz.func69, Tryz.ntmps69
  go_wp2_with fail
  refine hn.out.mono ?_
  rintro e w1 ⟨rfl, hL1⟩
  have HL1 := Lib.hid (HL0.out.trans (hL1.mono HL0.out.size))
  have HZ1 := Lib.hid (HZ.out.below hL1 (by simp))
  have HB1 := Lib.hid (HB.out.below hL1 HB.out.lt); clear hL1
  have z0 := HZ1.out.cell 0
  have z1 := HZ1.out.cell 1
  have z2 := HZ1.out.cell 2
  have z3 := HZ1.out.cell 3
  have z4 := HZ1.out.cell 4
  have z5 := HZ1.out.cell 5
  simp only [Wd.cells, Wd.zero, List.getElem?_cons_zero, List.getElem?_cons_succ] at z0 z1 z2 z3 z4 z5
  have f0 := HZ1.out.free 0
  have f1 := HZ1.out.free 1
  have f2 := HZ1.out.free 2
  have f3 := HZ1.out.free 3
  have f4 := HZ1.out.free 4
  have f5 := HZ1.out.free 5
  have c0 := HB1.out.cell 0
  have c1 := HB1.out.cell 1
  have c2 := HB1.out.cell 2
  have c3 := HB1.out.cell 3
  have c4 := HB1.out.cell 4
  have c5 := HB1.out.cell 5
  have c6 := HB1.out.cell 6
  have c7 := HB1.out.cell 7
  simp only [Fm.cells, List.getElem?_cons_zero, List.getElem?_cons_succ] at c0 c1 c2 c3 c4 c5 c6 c7
  go_wp2_with fail
  refine ret_cell rfl w.heap.size 78 (Wd.mk ch lo wa re by_ nx).cells rfl ((((((HZ1.out.set 0 _).set 1 _).set 2 _).set 3 _).set 4 _).set 5 _) Tryz.underlying78 rfl (by kernel_rfl) rfl ?_
  exact ⟨rfl, ((((((HL1.out.setCell (Nat.le_refl _) _).setCell (Nat.le_refl _) _).setCell (Nat.le_refl _) _).setCell (Nat.le_refl _) _).setCell (Nat.le_refl _) _).setCell (Nat.le_refl _) _)⟩
end
section
def whenB (f : Fm) (a : Int) (room : Bool) : Nat → Bool
  | 0 => f.st.lockout
  | 1 => a == 0 && room
  | 2 => a == 0
  | 3 => decide (a < f.half)
  | 4 => decide (256 - f.half ≤ a)
  | _ => true
def doF (f : Fm) : Nat → Fm
  | 1 => ⟨f.craft, f.half, ⟨f.st.chan, f.st.lockout, f.st.wait, false, f.st.bypd, (f.st.next + 1) % 256⟩⟩
  | 2 => ⟨f.craft, f.half, ⟨f.st.chan, f.st.lockout, true, true, f.st.bypd, f.st.next⟩⟩
  | 3 => ⟨f.craft, f.half, ⟨f.st.chan, f.st.lockout, f.st.wait, true, f.st.bypd, f.st.next⟩⟩
  | 5 => ⟨f.craft, f.half, ⟨f.st.chan, true, f.st.wait, f.st.retx, f.st.bypd, f.st.next⟩⟩
  | _ => f
section
variable (f : Fm) (g : Nat) (w : World) (a : Int) (room : Bool)
set_option maxHeartbeats 1000000 in
set_option maxRecDepth 100000 in
theorem when0 (hB : Blk w g f.cells 80) : Calls Tryz.prog 72 #[.pointer (some ⟨g, 0, none⟩), .agg #[.int .i64 a, .bool room]] w fun e w' => e = .returned (.bool (whenB f a room 0)) ∧ Below w.heap.size w w' := by
  have HB := Lib.hid (hB.alloc (Obj.cells #[.int .i64 a, .bool room] 100)); clear hB
  have c0 := HB.out.cell 0
  have c1 := HB.out.cell 1
  have c2 := HB.out.cell 2
  have c3 := HB.out.cell 3
  have c4 := HB.out.cell 4
  have c5 := HB.out.cell 5
  have c6 := HB.out.cell 6
  have c7 := HB.out.cell 7
  simp only [Fm.cells, List.getElem?_cons_zero, List.getElem?_cons_succ] at c0 c1 c2 c3 c4 c5 c6 c7
  go_enter Tryz.func72, Tryz.ntmps72
  go_wp2_with fail
  go_ret
  exact ⟨rfl, (Below.refl _ _).alloc (Nat.le_refl _) _⟩
set_option maxHeartbeats 1000000 in
set_option maxRecDepth 100000 in
theorem when1 : Calls Tryz.prog 74 #[.pointer (some ⟨g, 0, none⟩), .agg #[.int .i64 a, .bool room]] w fun e w' => e = .returned (.bool (whenB f a room 1)) ∧ Below w.heap.size w w' := by
  go_enter Tryz.func74, Tryz.ntmps74
  go_wp2_with fail
  all_goals
    go_ret
    refine ⟨?_, (Below.refl _ _).alloc (Nat.le_refl _) _⟩
    simp_all [whenB]
set_option maxHeartbeats 1000000 in
set_option maxRecDepth 100000 in
theorem when2 : Calls Tryz.prog 76 #[.pointer (some ⟨g, 0, none⟩), .agg #[.int .i64 a, .bool room]] w fun e w' => e = .returned (.bool (whenB f a room 2)) ∧ Below w.heap.size w w' := by
  go_enter Tryz.func76, Tryz.ntmps76
  go_wp2_with fail
  go_ret
  exact ⟨rfl, (Below.refl _ _).alloc (Nat.le_refl _) _⟩
set_option maxHeartbeats 1000000 in
set_option maxRecDepth 100000 in
theorem when3 (hB : Blk w g f.cells 80) : Calls Tryz.prog 78 #[.pointer (some ⟨g, 0, none⟩), .agg #[.int .i64 a, .bool room]] w fun e w' => e = .returned (.bool (whenB f a room 3)) ∧ Below w.heap.size w w' := by
  have HB := Lib.hid (hB.alloc (Obj.cells #[.int .i64 a, .bool room] 100)); clear hB
  have c0 := HB.out.cell 0
  have c1 := HB.out.cell 1
  have c2 := HB.out.cell 2
  have c3 := HB.out.cell 3
  have c4 := HB.out.cell 4
  have c5 := HB.out.cell 5
  have c6 := HB.out.cell 6
  have c7 := HB.out.cell 7
  simp only [Fm.cells, List.getElem?_cons_zero, List.getElem?_cons_succ] at c0 c1 c2 c3 c4 c5 c6 c7
  go_enter Tryz.func78, Tryz.ntmps78
  go_wp2_with fail
  go_quiet (fail)
  go_wp2_with fail
  go_ret
  exact ⟨rfl, ((Below.refl _ _).alloc (Nat.le_refl _) _).trans ((below_quiet _ _).1.mono (by simp))⟩
set_option maxHeartbeats 1000000 in
set_option maxRecDepth 100000 in
theorem when4 (hB : Blk w g f.cells 80) (h0 : 0 ≤ f.half) (h1 : f.half ≤ 255) : Calls Tryz.prog 80 #[.pointer (some ⟨g, 0, none⟩), .agg #[.int .i64 a, .bool room]] w fun e w' => e = .returned (.bool (whenB f a room 4)) ∧ Below w.heap.size w w' := by
  have HB := Lib.hid (hB.alloc (Obj.cells #[.int .i64 a, .bool room] 100)); clear hB
  have c0 := HB.out.cell 0
  have c1 := HB.out.cell 1
  have c2 := HB.out.cell 2
  have c3 := HB.out.cell 3
  have c4 := HB.out.cell 4
  have c5 := HB.out.cell 5
  have c6 := HB.out.cell 6
  have c7 := HB.out.cell 7
  simp only [Fm.cells, List.getElem?_cons_zero, List.getElem?_cons_succ] at c0 c1 c2 c3 c4 c5 c6 c7
  have hw : IntKind.i64.wrap (256 - f.half) = 256 - f.half := IntWalk.i64_in _ (by omega)
  go_enter Tryz.func80, Tryz.ntmps80
  go_wp2_with fail
  go_quiet (fail)
  go_wp2_with fail
  go_ret
  exact ⟨rfl, ((Below.refl _ _).alloc (Nat.le_refl _) _).trans ((below_quiet _ _).1.mono (by simp))⟩
set_option maxHeartbeats 1000000 in
set_option maxRecDepth 100000 in
theorem when5 : Calls Tryz.prog 82 #[.pointer (some ⟨g, 0, none⟩), .agg #[.int .i64 a, .bool room]] w fun e w' => e = .returned (.bool (whenB f a room 5)) ∧ Below w.heap.size w w' := by
  go_enter Tryz.func82, Tryz.ntmps82
  go_wp2_with fail
  go_ret
  exact ⟨rfl, (Below.refl _ _).alloc (Nat.le_refl _) _⟩
set_option maxHeartbeats 1000000 in
set_option maxRecDepth 100000 in
theorem do0 (hB : Blk w g f.cells 80) : Calls Tryz.prog 73 #[.pointer (some ⟨g, 2, none⟩)] w fun e w' => e = .returned (.tuple #[]) ∧ Keep [g] w w' ∧ Blk w' g (doF f 0).cells 80 := by
  have HB := Lib.hid hB; clear hB
  have c0 := HB.out.cell 0
  have c1 := HB.out.cell 1
  have c2 := HB.out.cell 2
  have c3 := HB.out.cell 3
  have c4 := HB.out.cell 4
  have c5 := HB.out.cell 5
  have c6 := HB.out.cell 6
  have c7 := HB.out.cell 7
  simp only [Fm.cells, List.getElem?_cons_zero, List.getElem?_cons_succ] at c0 c1 c2 c3 c4 c5 c6 c7
  have f0 := HB.out.free 0
  have f1 := HB.out.free 1
  have f2 := HB.out.free 2
  have f3 := HB.out.free 3
  have f4 := HB.out.free 4
  have f5 := HB.out.free 5
  have f6 := HB.out.free 6
  have f7 := HB.out.free 7
  go_enter Tryz.func73, Tryz.ntmps73
  go_wp2_with fail
  go_end0
  exact ⟨rfl, Keep.refl _ _, HB.out⟩
set_option maxHeartbeats 1000000 in
set_option maxRecDepth 100000 in
theorem do1 (hB : Blk w g f.cells 80) (h0 : 0 ≤ f.st.next) (h1 : f.st.next ≤ 255) : Calls Tryz.prog 75 #[.pointer (some ⟨g, 2, none⟩)] w fun e w' => e = .returned (.tuple #[]) ∧ Keep [g] w w' ∧ Blk w' g (doF f 1).cells 80 := by
  have HB := Lib.hid hB; clear hB
  have c0 := HB.out.cell 0
  have c1 := HB.out.cell 1
  have c2 := HB.out.cell 2
  have c3 := HB.out.cell 3
  have c4 := HB.out.cell 4
  have c5 := HB.out.cell 5
  have c6 := HB.out.cell 6
  have c7 := HB.out.cell 7
  simp only [Fm.cells, List.getElem?_cons_zero, List.getElem?_cons_succ] at c0 c1 c2 c3 c4 c5 c6 c7
  have f0 := HB.out.free 0
  have f1 := HB.out.free 1
  have f2 := HB.out.free 2
  have f3 := HB.out.free 3
  have f4 := HB.out.free 4
  have f5 := HB.out.free 5
  have f6 := HB.out.free 6
  have f7 := HB.out.free 7
  go_enter Tryz.func75, Tryz.ntmps75
  go_wp2_with fail
  go_end0
  exact ⟨rfl, ((Keep.refl _ _).setCell (.inl (by simp)) _).setCell (.inl (by simp)) _, (HB.out.set 7 _).set 5 _⟩
set_option maxHeartbeats 1000000 in
set_option maxRecDepth 100000 in
theorem do2 (hB : Blk w g f.cells 80) : Calls Tryz.prog 77 #[.pointer (some ⟨g, 2, none⟩)] w fun e w' => e = .returned (.tuple #[]) ∧ Keep [g] w w' ∧ Blk w' g (doF f 2).cells 80 := by
  have HB := Lib.hid hB; clear hB
  have c0 := HB.out.cell 0
  have c1 := HB.out.cell 1
  have c2 := HB.out.cell 2
  have c3 := HB.out.cell 3
  have c4 := HB.out.cell 4
  have c5 := HB.out.cell 5
  have c6 := HB.out.cell 6
  have c7 := HB.out.cell 7
  simp only [Fm.cells, List.getElem?_cons_zero, List.getElem?_cons_succ] at c0 c1 c2 c3 c4 c5 c6 c7
  have f0 := HB.out.free 0
  have f1 := HB.out.free 1
  have f2 := HB.out.free 2
  have f3 := HB.out.free 3
  have f4 := HB.out.free 4
  have f5 := HB.out.free 5
  have f6 := HB.out.free 6
  have f7 := HB.out.free 7
  go_enter Tryz.func77, Tryz.ntmps77
  go_wp2_with fail
  go_end0
  exact ⟨rfl, ((Keep.refl _ _).setCell (.inl (by simp)) _).setCell (.inl (by simp)) _, (HB.out.set 4 _).set 5 _⟩
set_option maxHeartbeats 1000000 in
set_option maxRecDepth 100000 in
theorem do3 (hB : Blk w g f.cells 80) : Calls Tryz.prog 79 #[.pointer (some ⟨g, 2, none⟩)] w fun e w' => e = .returned (.tuple #[]) ∧ Keep [g] w w' ∧ Blk w' g (doF f 3).cells 80 := by
  have HB := Lib.hid hB; clear hB
  have c0 := HB.out.cell 0
  have c1 := HB.out.cell 1
  have c2 := HB.out.cell 2
  have c3 := HB.out.cell 3
  have c4 := HB.out.cell 4
  have c5 := HB.out.cell 5
  have c6 := HB.out.cell 6
  have c7 := HB.out.cell 7
  simp only [Fm.cells, List.getElem?_cons_zero, List.getElem?_cons_succ] at c0 c1 c2 c3 c4 c5 c6 c7
  have f0 := HB.out.free 0
  have f1 := HB.out.free 1
  have f2 := HB.out.free 2
  have f3 := HB.out.free 3
  have f4 := HB.out.free 4
  have f5 := HB.out.free 5
  have f6 := HB.out.free 6
  have f7 := HB.out.free 7
  go_enter Tryz.func79, Tryz.ntmps79
  go_wp2_with fail
  go_end0
  exact ⟨rfl, (Keep.refl _ _).setCell (.inl (by simp)) _, HB.out.set 5 _⟩
set_option maxHeartbeats 1000000 in
set_option maxRecDepth 100000 in
theorem do4 (hB : Blk w g f.cells 80) : Calls Tryz.prog 81 #[.pointer (some ⟨g, 2, none⟩)] w fun e w' => e = .returned (.tuple #[]) ∧ Keep [g] w w' ∧ Blk w' g (doF f 4).cells 80 := by
  have HB := Lib.hid hB; clear hB
  have c0 := HB.out.cell 0
  have c1 := HB.out.cell 1
  have c2 := HB.out.cell 2
  have c3 := HB.out.cell 3
  have c4 := HB.out.cell 4
  have c5 := HB.out.cell 5
  have c6 := HB.out.cell 6
  have c7 := HB.out.cell 7
  simp only [Fm.cells, List.getElem?_cons_zero, List.getElem?_cons_succ] at c0 c1 c2 c3 c4 c5 c6 c7
  have f0 := HB.out.free 0
  have f1 := HB.out.free 1
  have f2 := HB.out.free 2
  have f3 := HB.out.free 3
  have f4 := HB.out.free 4
  have f5 := HB.out.free 5
  have f6 := HB.out.free 6
  have f7 := HB.out.free 7
  go_enter Tryz.func81, Tryz.ntmps81
  go_wp2_with fail
  go_end0
  exact ⟨rfl, Keep.refl _ _, HB.out⟩
set_option maxHeartbeats 1000000 in
set_option maxRecDepth 100000 in
theorem do5 (hB : Blk w g f.cells 80) : Calls Tryz.prog 83 #[.pointer (some ⟨g, 2, none⟩)] w fun e w' => e = .returned (.tuple #[]) ∧ Keep [g] w w' ∧ Blk w' g (doF f 5).cells 80 := by
  have HB := Lib.hid hB; clear hB
  have c0 := HB.out.cell 0
  have c1 := HB.out.cell 1
  have c2 := HB.out.cell 2
  have c3 := HB.out.cell 3
  have c4 := HB.out.cell 4
  have c5 := HB.out.cell 5
  have c6 := HB.out.cell 6
  have c7 := HB.out.cell 7
  simp only [Fm.cells, List.getElem?_cons_zero, List.getElem?_cons_succ] at c0 c1 c2 c3 c4 c5 c6 c7
  have f0 := HB.out.free 0
  have f1 := HB.out.free 1
  have f2 := HB.out.free 2
  have f3 := HB.out.free 3
  have f4 := HB.out.free 4
  have f5 := HB.out.free 5
  have f6 := HB.out.free 6
  have f7 := HB.out.free 7
  go_enter Tryz.func83, Tryz.ntmps83
  go_wp2_with fail
  go_end0
  exact ⟨rfl, (Keep.refl _ _).setCell (.inl (by simp)) _, HB.out.set 3 _⟩
end
end
section
/-- What a bypass frame does: the automaton after it, and the answer. -/
def bypassF (f : Fm) (x : Tc) : Fm × Bool × Int :=
  if x.ctl then
    if x.ctl3.2.2 then
      (⟨f.craft, f.half, if x.ctl3.1 then ⟨f.st.chan, false, false, false, (f.st.bypd + 1) % 4, f.st.next⟩
        else if f.st.lockout then ⟨f.st.chan, true, f.st.wait, f.st.retx, (f.st.bypd + 1) % 4, f.st.next⟩
        else ⟨f.st.chan, false, false, false, (f.st.bypd + 1) % 4, x.ctl3.2.1⟩⟩, false, 0)
    else (f, false, 6)
  else (⟨f.craft, f.half, ⟨f.st.chan, f.st.lockout, f.st.wait, f.st.retx, (f.st.bypd + 1) % 4, f.st.next⟩⟩, true, 0)
theorem and3 (b : Int) (h0 : 0 ≤ b) (h1 : b ≤ 3) : bits .and .i64 (b + 1) 3 = (b + 1) % 4 := by
  have h : b = 0 ∨ b = 1 ∨ b = 2 ∨ b = 3 := by omega
  rcases h with rfl | rfl | rfl | rfl <;> decide
set_option maxHeartbeats 4000000 in
set_option maxRecDepth 100000 in
theorem bypass_any (f : Fm) (x : Tc) (g : Nat) (w : World) (h0 : 0 ≤ f.st.bypd) (h1 : f.st.bypd ≤ 3) (hB : Blk w g f.cells 80) :
    Calls Tryz.prog 41 #[.pointer (some ⟨g, 0, none⟩), x.val] w fun e w' => e = .returned (.tuple #[.bool (bypassF f x).2.1, .int .i64 (bypassF f x).2.2]) ∧ Keep [g] w w' ∧ Blk w' g (bypassF f x).1.cells 80 := by
  have hcv := Control_any x
  obtain ⟨⟨u, n, ok⟩, h3⟩ : ∃ y, y = x.ctl3 := ⟨_, rfl⟩
  unfold Tc.ctlV out3 at hcv
  unfold bypassF
  rw [← h3] at hcv ⊢
  clear h3
  obtain ⟨c, ch, b, k, s, d⟩ := x
  obtain ⟨cr, hf, ⟨fc, lo, wa, re, by_, nx⟩⟩ := f
  simp only [Tc.val] at hcv h0 h1 ⊢
  have hlt : g < w.heap.size := hB.lt
  obtain ⟨m, hm⟩ : ∃ m, m = (by_ + 1) % 4 := ⟨_, rfl⟩
  have ha : bits .and .i64 (by_ + 1) 3 = m := by rw [hm]; exact and3 _ h0 h1
  rw [← hm]
  clear hm
  have HC := Lib.hid hcv; clear hcv
  have HK := Lib.hid (((Keep.refl [g] w).alloc (Obj.cells #[.int .i64 c, .int .i64 ch, .bool b, .bool k, .int .i64 s, .string d] 37)).alloc (Obj.cells #[.int .i64 fc, .bool lo, .bool wa, .bool re, .int .i64 m, .int .i64 nx] 78))
  have HF := Lib.hid ((hB.alloc (Obj.cells #[.int .i64 c, .int .i64 ch, .bool b, .bool k, .int .i64 s, .string d] 37)).alloc (Obj.cells #[.int .i64 fc, .bool lo, .bool wa, .bool re, .int .i64 m, .int .i64 nx] 78))
  have HX := Lib.hid ((Blk.new w [.int .i64 c, .int .i64 ch, .bool b, .bool k, .int .i64 s, .string d] 37).alloc (Obj.cells #[.int .i64 fc, .bool lo, .bool wa, .bool re, .int .i64 m, .int .i64 nx] 78))
  have HW := Lib.hid (Blk.new_at (w.alloc (Obj.cells #[.int .i64 c, .int .i64 ch, .bool b, .bool k, .int .i64 s, .string d] 37)) [.int .i64 fc, .bool lo, .bool wa, .bool re, .int .i64 m, .int .i64 nx] 78 (w.heap.size + 1) (by simp))
  have HB0 := Lib.hid hB
  have HF0 := Lib.hid (hB.alloc (Obj.cells #[.int .i64 c, .int .i64 ch, .bool b, .bool k, .int .i64 s, .string d] 37)); clear hB
  have c0 := HF0.out.cell 0
  have c1 := HF0.out.cell 1
  have c2 := HF0.out.cell 2
  have c3 := HF0.out.cell 3
  have c4 := HF0.out.cell 4
  have c5 := HF0.out.cell 5
  have c6 := HF0.out.cell 6
  have c7 := HF0.out.cell 7
  simp only [Fm.cells, List.getElem?_cons_zero, List.getElem?_cons_succ] at c0 c1 c2 c3 c4 c5 c6 c7
  have q0 := HB0.out.cell 0
  have q1 := HB0.out.cell 1
  have q2 := HB0.out.cell 2
  have q3 := HB0.out.cell 3
  have q4 := HB0.out.cell 4
  have q5 := HB0.out.cell 5
  have q6 := HB0.out.cell 6
  have q7 := HB0.out.cell 7
  simp only [Fm.cells, List.getElem?_cons_zero, List.getElem?_cons_succ] at q0 q1 q2 q3 q4 q5 q6 q7
  have r0 := HB0.out.free 0
  have r1 := HB0.out.free 1
  have r2 := HB0.out.free 2
  have r3 := HB0.out.free 3
  have r4 := HB0.out.free 4
  have r5 := HB0.out.free 5
  have r6 := HB0.out.free 6
  have r7 := HB0.out.free 7
  cases k
  · go_enter Tryz.func41, Tryz.ntmps41
    go_wp2_with fail
    go_ret2
    exact ⟨rfl, ((((((((Keep.refl [g] w).setCell (.inl (by simp)) _).setCell (.inl (by simp)) _).setCell (.inl (by simp)) _).setCell (.inl (by simp)) _).setCell (.inl (by simp)) _).setCell (.inl (by simp)) _).alloc _).alloc _, (((((((HB0.out.set 2 _).set 3 _).set 4 _).set 5 _).set 6 _).set 7 _).alloc _).alloc _⟩
  · go_enter Tryz.func41, Tryz.ntmps41
    go_wp2_with fail
    refine (HC.out _).mono ?_
    rintro e w1 ⟨rfl, hL1⟩
    clear q0 q1 q2 q3 q4 q5 q6 q7 r0 r1 r2 r3 r4 r5 r6 r7 c0 c1 c2 c3 c4 c5 c6 c7
    have HK1 := Lib.hid (HK.out.below hL1 (by simp; omega))
    have HF1 := Lib.hid (HF.out.below hL1 (by simp; omega))
    have HX1 := Lib.hid (HX.out.below hL1 (by simp; omega))
    have HW1 := Lib.hid (HW.out.below hL1 (by simp))
    have hs1 : w.heap.size + 2 ≤ w1.heap.size := by have := hL1.size; simp at this; omega
    clear hL1
    have c0 := HF1.out.cell 0
    have c1 := HF1.out.cell 1
    have c2 := HF1.out.cell 2
    have c3 := HF1.out.cell 3
    have c4 := HF1.out.cell 4
    have c5 := HF1.out.cell 5
    have c6 := HF1.out.cell 6
    have c7 := HF1.out.cell 7
    simp only [Fm.cells, List.getElem?_cons_zero, List.getElem?_cons_succ] at c0 c1 c2 c3 c4 c5 c6 c7
    have r0 := HF1.out.free 0
    have r1 := HF1.out.free 1
    have r2 := HF1.out.free 2
    have r3 := HF1.out.free 3
    have r4 := HF1.out.free 4
    have r5 := HF1.out.free 5
    have r6 := HF1.out.free 6
    have r7 := HF1.out.free 7
    have x0 := HX1.out.cell 0
    have x1 := HX1.out.cell 1
    have x2 := HX1.out.cell 2
    have x3 := HX1.out.cell 3
    have x4 := HX1.out.cell 4
    have x5 := HX1.out.cell 5
    simp only [List.getElem?_cons_zero, List.getElem?_cons_succ] at x0 x1 x2 x3 x4 x5
    have q0 := HW1.out.cell 0
    have q1 := HW1.out.cell 1
    have q2 := HW1.out.cell 2
    have q3 := HW1.out.cell 3
    have q4 := HW1.out.cell 4
    have q5 := HW1.out.cell 5
    simp only [List.getElem?_cons_zero, List.getElem?_cons_succ] at q0 q1 q2 q3 q4 q5
    have p0 := HW1.out.free 0
    have p1 := HW1.out.free 1
    have p2 := HW1.out.free 2
    have p3 := HW1.out.free 3
    have p4 := HW1.out.free 4
    have p5 := HW1.out.free 5
    cases ok
    · go_wp2_with fail
      go_ret2
      exact ⟨rfl, HK1.out, HF1.out⟩
    · cases u
      · cases lo
        · go_wp2_with fail
          go_ret2
          exact ⟨rfl, ((((((((((HK1.out.setCell (.inr (by simp)) _).setCell (.inr (by simp)) _).setCell (.inr (by simp)) _).setCell (.inr (by simp)) _).setCell (.inl (by simp)) _).setCell (.inl (by simp)) _).setCell (.inl (by simp)) _).setCell (.inl (by simp)) _).setCell (.inl (by simp)) _).setCell (.inl (by simp)) _), ((((((((((HF1.out.set_far (by simp; omega) _).set_far (by simp; omega) _).set_far (by simp; omega) _).set_far (by simp; omega) _).set 2 _).set 3 _).set 4 _).set 5 _).set 6 _).set 7 _)⟩
        · go_wp2_with fail
          go_ret2
          exact ⟨rfl, (((((HK1.out.setCell (.inl (by simp)) _).setCell (.inl (by simp)) _).setCell (.inl (by simp)) _).setCell (.inl (by simp)) _).setCell (.inl (by simp)) _).setCell (.inl (by simp)) _, (((((HF1.out.set 2 _).set 3 _).set 4 _).set 5 _).set 6 _).set 7 _⟩
      · go_wp2_with fail
        go_ret2
        exact ⟨rfl, (((((((((HK1.out.setCell (.inr (by simp)) _).setCell (.inr (by simp)) _).setCell (.inr (by simp)) _).setCell (.inl (by simp)) _).setCell (.inl (by simp)) _).setCell (.inl (by simp)) _).setCell (.inl (by simp)) _).setCell (.inl (by simp)) _).setCell (.inl (by simp)) _), (((((((((HF1.out.set_far (by simp; omega) _).set_far (by simp; omega) _).set_far (by simp; omega) _).set 2 _).set 3 _).set 4 _).set 5 _).set 6 _).set 7 _)⟩
end
section
def acts : List Value := [.func (.func 72) #[] #[], .func (.func 73) #[] #[], .func (.func 74) #[] #[], .func (.func 75) #[] #[], .func (.func 76) #[] #[], .func (.func 77) #[] #[], .func (.func 78) #[] #[], .func (.func 79) #[] #[], .func (.func 80) #[] #[], .func (.func 81) #[] #[], .func (.func 82) #[] #[], .func (.func 83) #[] #[]]
theorem store_fn0 (w : World) (t : TypeId) (f : Fn) (x y : Value) : (store ⟨w.heap.size, 0, none⟩ (.func f #[] #[])).run Tryz.prog (w.alloc (.cells #[x, y] t)) = .ok () (w.alloc (.cells #[.func f #[] #[], y] t)) := by
  have h := (Blk.new w [x, y] t)
  have c0 := h.cell 0
  have f0 := h.free 0
  rw [run_store _ _ _ _ _ rfl]
  simp only [List.getElem?_cons_zero] at c0
  simp [c0, f0]
  go_simp
theorem store_fn1 (w : World) (t : TypeId) (f : Fn) (x y : Value) : (store ⟨w.heap.size, 1, none⟩ (.func f #[] #[])).run Tryz.prog (w.alloc (.cells #[x, y] t)) = .ok () (w.alloc (.cells #[x, .func f #[] #[]] t)) := by
  have h := (Blk.new w [x, y] t)
  have c0 := h.cell 1
  have f0 := h.free 1
  rw [run_store _ _ _ _ _ rfl]
  simp only [List.getElem?_cons_zero, List.getElem?_cons_succ] at c0
  simp [c0, f0]
  go_simp
set_option maxHeartbeats 4000000 in
set_option maxRecDepth 100000 in
theorem actions_any (w : World) : Calls Tryz.prog 42 #[] w fun e w' => e = .returned (.slice (some ⟨w.heap.size, 0, none⟩) 6 6) ∧ Below w.heap.size w w' ∧ Blk w' w.heap.size acts 106 := by
  go_enter Tryz.func42, Tryz.ntmps42
  go_wp2_with fail
  go_ret
  exact ⟨rfl, (Below.refl _ _).alloc (Nat.le_refl _) _, Blk.new w acts _⟩
def Fm.ok (f : Fm) : Prop := 1 ≤ f.half ∧ f.half ≤ 127 ∧ 0 ≤ f.st.bypd ∧ f.st.bypd ≤ 3 ∧ 0 ≤ f.st.next ∧ f.st.next ≤ 255
/-- The number of the action that is taken. -/
def firstAct (f : Fm) (a : Int) (room : Bool) : Nat :=
  if whenB f a room 0 then 0 else if whenB f a room 1 then 1 else if whenB f a room 2 then 2 else if whenB f a room 3 then 3 else if whenB f a room 4 then 4 else 5
theorem firstAct_le (f : Fm) (a : Int) (room : Bool) : firstAct f a room ≤ 5 := by
  by_cases h : firstAct f a room ≤ 5
  · exact h
  · exfalso; apply h; unfold firstAct; split
    · omega
    split
    · omega
    split
    · omega
    split
    · omega
    split <;> omega
theorem firstAct_when (f : Fm) (a : Int) (room : Bool) (k : Nat) (h : k ≤ firstAct f a room) : whenB f a room k = decide (k = firstAct f a room) := by
  have h5 := firstAct_le f a room
  unfold firstAct at h ⊢
  have hk : k = 0 ∨ k = 1 ∨ k = 2 ∨ k = 3 ∨ k = 4 ∨ k = 5 := by unfold firstAct at h5; omega
  rcases hk with rfl | rfl | rfl | rfl | rfl | rfl
  all_goals
    cases h0 : whenB f a room 0 <;> cases h1 : whenB f a room 1 <;> cases h2 : whenB f a room 2 <;> cases h3 : whenB f a room 3 <;> cases h4 : whenB f a room 4 <;> simp [h0, h1, h2, h3, h4] at h ⊢ <;> rfl
/-- What Take does: the automaton after it, and the answer. -/
def takeF (f : Fm) (x : Tc) (room : Bool) : Fm × Bool × Int :=
  if x.good && (x.craft == f.craft) && (x.chan == f.st.chan) then
    if x.byp then bypassF f x
    else
      let a := (x.seq - f.st.next) % 256
      let f' := doF f (firstAct f a room)
      (f', f'.st.next != f.st.next, 0)
  else (f, false, 2)
theorem and255 : ∀ n : Nat, n < 511 → bits .and .i64 ((n : Int) - 255) 255 = ((n : Int) - 255) % 256 := by decide +kernel
theorem and255' (d : Int) (h0 : -255 ≤ d) (h1 : d ≤ 255) : bits .and .i64 d 255 = d % 256 := by
  have := and255 (d + 255).toNat (by omega)
  rw [show (((d + 255).toNat : Nat) : Int) - 255 = d by omega] at this
  exact this
set_option maxHeartbeats 4000000 in
set_option maxRecDepth 100000 in
theorem Take_bad (c ch : Int) (b k : Bool) (s : Int) (d : ByteArray) (cr hf fc : Int) (lo wa re : Bool) (by_ nx : Int) (room : Bool) (g : Nat) (w : World) (hok : (Fm.mk cr hf ⟨fc, lo, wa, re, by_, nx⟩).ok) (hB : Blk w g (Fm.mk cr hf ⟨fc, lo, wa, re, by_, nx⟩).cells 80)
    (hg : (Tc.mk c ch b k s d).good = false) :
    Calls Tryz.prog 18 #[.pointer (some ⟨g, 0, none⟩), (Tc.mk c ch b k s d).val, .bool room] w fun e w' => e = .returned (.tuple #[.bool false, .int .i64 2]) ∧ Keep [g] w w' ∧ Blk w' g (Fm.mk cr hf ⟨fc, lo, wa, re, by_, nx⟩).cells 80 := by
  have hP := Put_any (Tc.mk c ch b k s d)
  obtain ⟨hk1, hk2, hk3, hk4, hk5, hk6⟩ := hok
  have hlt : g < w.heap.size := hB.lt
  have hne : ((Fm.mk cr hf ⟨fc, lo, wa, re, by_, nx⟩).half == 0) = false := by
    have : hf ≠ 0 := by simp only at hk1; omega
    simpa using this
  have hnone := fun w h => none_any (Fm.mk cr hf ⟨fc, lo, wa, re, by_, nx⟩) g w false hne h
  clear hne
  have hsq : (Tc.mk c ch b k s d).good = true → 0 ≤ s ∧ s ≤ 255 := fun h => by have := (Tc.good_iff _).1 h; simp only at this; omega
  unfold Tc.putV at hP
  obtain ⟨s0, hs0⟩ : ∃ s0 : ByteArray, strOf (Tc.mk c ch b k s d).enc = .string s0 := ⟨_, rfl⟩
  rw [hs0] at hP
  clear hs0
  rw [hg] at hP
  clear hg hsq
  simp only [Tc.val] at hP hk1 hk2 hk3 hk4 hk5 hk6 ⊢
  have HP := Lib.hid hP; have HN := Lib.hid hnone; clear hP hnone
  have HK := Lib.hid ((Keep.refl [g] w).alloc (Obj.cells #[.int .i64 c, .int .i64 ch, .bool b, .bool k, .int .i64 s, .string d] 37))
  have HF := Lib.hid (hB.alloc (Obj.cells #[.int .i64 c, .int .i64 ch, .bool b, .bool k, .int .i64 s, .string d] 37))
  have HX := Lib.hid (Blk.new w [.int .i64 c, .int .i64 ch, .bool b, .bool k, .int .i64 s, .string d] 37)
  clear hB
  go_enter Tryz.func18, Tryz.ntmps18
  go_wp2_with fail
  refine (HN.out _ HF.out).mono ?_
  rintro e w1 ⟨rfl, rfl⟩
  go_wp2_with fail
  refine (HP.out _).mono ?_
  rintro e w1 ⟨rfl, hL1⟩
  have HK1 := Lib.hid (HK.out.below hL1 (by simp))
  have HF1 := Lib.hid (HF.out.below hL1 (by simp; omega))
  have HX1 := Lib.hid (HX.out.below hL1 (by simp))
  have hs1 : w.heap.size + 1 ≤ w1.heap.size := by have := hL1.size; simp at this; omega
  clear hL1
  have c0 := HF1.out.cell 0
  have c1 := HF1.out.cell 1
  have c2 := HF1.out.cell 2
  have c3 := HF1.out.cell 3
  have c4 := HF1.out.cell 4
  have c5 := HF1.out.cell 5
  have c6 := HF1.out.cell 6
  have c7 := HF1.out.cell 7
  simp only [Fm.cells, List.getElem?_cons_zero, List.getElem?_cons_succ] at c0 c1 c2 c3 c4 c5 c6 c7
  have x0 := HX1.out.cell 0
  have x1 := HX1.out.cell 1
  have x2 := HX1.out.cell 2
  have x3 := HX1.out.cell 3
  have x4 := HX1.out.cell 4
  have x5 := HX1.out.cell 5
  simp only [List.getElem?_cons_zero, List.getElem?_cons_succ] at x0 x1 x2 x3 x4 x5
  go_wp2_with fail
  go_quiet (fail)
  go_wp2_with fail
  go_ret2
  exact ⟨rfl, HK1.out.drewN _, HF1.out.drewN _⟩
set_option maxHeartbeats 4000000 in
set_option maxRecDepth 100000 in
theorem Take_craft (c ch : Int) (b k : Bool) (s : Int) (d : ByteArray) (cr hf fc : Int) (lo wa re : Bool) (by_ nx : Int) (room : Bool) (g : Nat) (w : World) (hok : (Fm.mk cr hf ⟨fc, lo, wa, re, by_, nx⟩).ok) (hB : Blk w g (Fm.mk cr hf ⟨fc, lo, wa, re, by_, nx⟩).cells 80)
    (hg : (Tc.mk c ch b k s d).good = true) (hc1 : (c != cr) = true) :
    Calls Tryz.prog 18 #[.pointer (some ⟨g, 0, none⟩), (Tc.mk c ch b k s d).val, .bool room] w fun e w' => e = .returned (.tuple #[.bool false, .int .i64 2]) ∧ Keep [g] w w' ∧ Blk w' g (Fm.mk cr hf ⟨fc, lo, wa, re, by_, nx⟩).cells 80 := by
  have hP := Put_any (Tc.mk c ch b k s d)
  obtain ⟨hk1, hk2, hk3, hk4, hk5, hk6⟩ := hok
  have hlt : g < w.heap.size := hB.lt
  have hne : ((Fm.mk cr hf ⟨fc, lo, wa, re, by_, nx⟩).half == 0) = false := by
    have : hf ≠ 0 := by simp only at hk1; omega
    simpa using this
  have hnone := fun w h => none_any (Fm.mk cr hf ⟨fc, lo, wa, re, by_, nx⟩) g w false hne h
  clear hne
  have hsq : (Tc.mk c ch b k s d).good = true → 0 ≤ s ∧ s ≤ 255 := fun h => by have := (Tc.good_iff _).1 h; simp only at this; omega
  unfold Tc.putV at hP
  obtain ⟨s0, hs0⟩ : ∃ s0 : ByteArray, strOf (Tc.mk c ch b k s d).enc = .string s0 := ⟨_, rfl⟩
  rw [hs0] at hP
  clear hs0
  rw [hg] at hP
  obtain ⟨hs0, hs2⟩ := hsq hg
  clear hg hsq
  simp only [Tc.val] at hP hk1 hk2 hk3 hk4 hk5 hk6 ⊢
  have HP := Lib.hid hP; have HN := Lib.hid hnone; clear hP hnone
  have HK := Lib.hid ((Keep.refl [g] w).alloc (Obj.cells #[.int .i64 c, .int .i64 ch, .bool b, .bool k, .int .i64 s, .string d] 37))
  have HF := Lib.hid (hB.alloc (Obj.cells #[.int .i64 c, .int .i64 ch, .bool b, .bool k, .int .i64 s, .string d] 37))
  have HX := Lib.hid (Blk.new w [.int .i64 c, .int .i64 ch, .bool b, .bool k, .int .i64 s, .string d] 37)
  clear hB
  go_enter Tryz.func18, Tryz.ntmps18
  go_wp2_with fail
  refine (HN.out _ HF.out).mono ?_
  rintro e w1 ⟨rfl, rfl⟩
  go_wp2_with fail
  refine (HP.out _).mono ?_
  rintro e w1 ⟨rfl, hL1⟩
  have HK1 := Lib.hid (HK.out.below hL1 (by simp))
  have HF1 := Lib.hid (HF.out.below hL1 (by simp; omega))
  have HX1 := Lib.hid (HX.out.below hL1 (by simp))
  have hs1 : w.heap.size + 1 ≤ w1.heap.size := by have := hL1.size; simp at this; omega
  clear hL1
  have c0 := HF1.out.cell 0
  have c1 := HF1.out.cell 1
  have c2 := HF1.out.cell 2
  have c3 := HF1.out.cell 3
  have c4 := HF1.out.cell 4
  have c5 := HF1.out.cell 5
  have c6 := HF1.out.cell 6
  have c7 := HF1.out.cell 7
  simp only [Fm.cells, List.getElem?_cons_zero, List.getElem?_cons_succ] at c0 c1 c2 c3 c4 c5 c6 c7
  have x0 := HX1.out.cell 0
  have x1 := HX1.out.cell 1
  have x2 := HX1.out.cell 2
  have x3 := HX1.out.cell 3
  have x4 := HX1.out.cell 4
  have x5 := HX1.out.cell 5
  simp only [List.getElem?_cons_zero, List.getElem?_cons_succ] at x0 x1 x2 x3 x4 x5
  go_wp2_with fail
  go_quiet (fail)
  go_wp2_with fail
  go_ret2
  exact ⟨rfl, HK1.out.drewN _, HF1.out.drewN _⟩
set_option maxHeartbeats 4000000 in
set_option maxRecDepth 100000 in
theorem Take_chan (c ch : Int) (b k : Bool) (s : Int) (d : ByteArray) (cr hf fc : Int) (lo wa re : Bool) (by_ nx : Int) (room : Bool) (g : Nat) (w : World) (hok : (Fm.mk cr hf ⟨fc, lo, wa, re, by_, nx⟩).ok) (hB : Blk w g (Fm.mk cr hf ⟨fc, lo, wa, re, by_, nx⟩).cells 80)
    (hg : (Tc.mk c ch b k s d).good = true) (hc1 : c = cr) (hc2 : (ch != fc) = true) :
    Calls Tryz.prog 18 #[.pointer (some ⟨g, 0, none⟩), (Tc.mk c ch b k s d).val, .bool room] w fun e w' => e = .returned (.tuple #[.bool false, .int .i64 2]) ∧ Keep [g] w w' ∧ Blk w' g (Fm.mk cr hf ⟨fc, lo, wa, re, by_, nx⟩).cells 80 := by
  have hP := Put_any (Tc.mk c ch b k s d)
  obtain ⟨hk1, hk2, hk3, hk4, hk5, hk6⟩ := hok
  have hlt : g < w.heap.size := hB.lt
  have hne : ((Fm.mk cr hf ⟨fc, lo, wa, re, by_, nx⟩).half == 0) = false := by
    have : hf ≠ 0 := by simp only at hk1; omega
    simpa using this
  have hnone := fun w h => none_any (Fm.mk cr hf ⟨fc, lo, wa, re, by_, nx⟩) g w false hne h
  clear hne
  have hsq : (Tc.mk c ch b k s d).good = true → 0 ≤ s ∧ s ≤ 255 := fun h => by have := (Tc.good_iff _).1 h; simp only at this; omega
  unfold Tc.putV at hP
  obtain ⟨s0, hs0⟩ : ∃ s0 : ByteArray, strOf (Tc.mk c ch b k s d).enc = .string s0 := ⟨_, rfl⟩
  rw [hs0] at hP
  clear hs0
  rw [hg] at hP
  obtain ⟨hs0, hs2⟩ := hsq hg
  clear hg hsq
  subst hc1
  simp only [Tc.val] at hP hk1 hk2 hk3 hk4 hk5 hk6 ⊢
  have HP := Lib.hid hP; have HN := Lib.hid hnone; clear hP hnone
  have HK := Lib.hid ((Keep.refl [g] w).alloc (Obj.cells #[.int .i64 c, .int .i64 ch, .bool b, .bool k, .int .i64 s, .string d] 37))
  have HF := Lib.hid (hB.alloc (Obj.cells #[.int .i64 c, .int .i64 ch, .bool b, .bool k, .int .i64 s, .string d] 37))
  have HX := Lib.hid (Blk.new w [.int .i64 c, .int .i64 ch, .bool b, .bool k, .int .i64 s, .string d] 37)
  clear hB
  go_enter Tryz.func18, Tryz.ntmps18
  go_wp2_with fail
  refine (HN.out _ HF.out).mono ?_
  rintro e w1 ⟨rfl, rfl⟩
  go_wp2_with fail
  refine (HP.out _).mono ?_
  rintro e w1 ⟨rfl, hL1⟩
  have HK1 := Lib.hid (HK.out.below hL1 (by simp))
  have HF1 := Lib.hid (HF.out.below hL1 (by simp; omega))
  have HX1 := Lib.hid (HX.out.below hL1 (by simp))
  have hs1 : w.heap.size + 1 ≤ w1.heap.size := by have := hL1.size; simp at this; omega
  clear hL1
  have c0 := HF1.out.cell 0
  have c1 := HF1.out.cell 1
  have c2 := HF1.out.cell 2
  have c3 := HF1.out.cell 3
  have c4 := HF1.out.cell 4
  have c5 := HF1.out.cell 5
  have c6 := HF1.out.cell 6
  have c7 := HF1.out.cell 7
  simp only [Fm.cells, List.getElem?_cons_zero, List.getElem?_cons_succ] at c0 c1 c2 c3 c4 c5 c6 c7
  have x0 := HX1.out.cell 0
  have x1 := HX1.out.cell 1
  have x2 := HX1.out.cell 2
  have x3 := HX1.out.cell 3
  have x4 := HX1.out.cell 4
  have x5 := HX1.out.cell 5
  simp only [List.getElem?_cons_zero, List.getElem?_cons_succ] at x0 x1 x2 x3 x4 x5
  go_wp2_with fail
  go_quiet (fail)
  go_wp2_with fail
  go_ret2
  exact ⟨rfl, HK1.out.drewN _, HF1.out.drewN _⟩
set_option maxHeartbeats 4000000 in
set_option maxRecDepth 100000 in
theorem Take_by (c ch : Int) (k : Bool) (s : Int) (d : ByteArray) (hf : Int) (lo wa re : Bool) (by_ nx : Int) (room : Bool) (g : Nat) (w : World) (hok : (Fm.mk c hf ⟨ch, lo, wa, re, by_, nx⟩).ok) (hB : Blk w g (Fm.mk c hf ⟨ch, lo, wa, re, by_, nx⟩).cells 80)
    (hg : (Tc.mk c ch true k s d).good = true) :
    Calls Tryz.prog 18 #[.pointer (some ⟨g, 0, none⟩), (Tc.mk c ch true k s d).val, .bool room] w fun e w' => e = .returned (.tuple #[.bool (bypassF (Fm.mk c hf ⟨ch, lo, wa, re, by_, nx⟩) (Tc.mk c ch true k s d)).2.1, .int .i64 (bypassF (Fm.mk c hf ⟨ch, lo, wa, re, by_, nx⟩) (Tc.mk c ch true k s d)).2.2]) ∧ Keep [g] w w' ∧ Blk w' g (bypassF (Fm.mk c hf ⟨ch, lo, wa, re, by_, nx⟩) (Tc.mk c ch true k s d)).1.cells 80 := by
  have hP := Put_any (Tc.mk c ch true k s d)
  obtain ⟨hk1, hk2, hk3, hk4, hk5, hk6⟩ := hok
  have hlt : g < w.heap.size := hB.lt
  have hne : ((Fm.mk c hf ⟨ch, lo, wa, re, by_, nx⟩).half == 0) = false := by
    have : hf ≠ 0 := by simp only at hk1; omega
    simpa using this
  have hnone := fun w h => none_any (Fm.mk c hf ⟨ch, lo, wa, re, by_, nx⟩) g w false hne h
  clear hne
  have hsq : (Tc.mk c ch true k s d).good = true → 0 ≤ s ∧ s ≤ 255 := fun h => by have := (Tc.good_iff _).1 h; simp only at this; omega
  unfold Tc.putV at hP
  obtain ⟨s0, hs0⟩ : ∃ s0 : ByteArray, strOf (Tc.mk c ch true k s d).enc = .string s0 := ⟨_, rfl⟩
  rw [hs0] at hP
  clear hs0
  have hby := fun w h => bypass_any (Fm.mk c hf ⟨ch, lo, wa, re, by_, nx⟩) (Tc.mk c ch true k s d) g w hk3 hk4 h
  simp only [Tc.val] at hby
  have HY := Lib.hid hby; clear hby
  rw [hg] at hP
  obtain ⟨hs0, hs2⟩ := hsq hg
  clear hg hsq
  simp only [Tc.val] at hP hk1 hk2 hk3 hk4 hk5 hk6 ⊢
  have HP := Lib.hid hP; have HN := Lib.hid hnone; clear hP hnone
  have HK := Lib.hid ((Keep.refl [g] w).alloc (Obj.cells #[.int .i64 c, .int .i64 ch, .bool true, .bool k, .int .i64 s, .string d] 37))
  have HF := Lib.hid (hB.alloc (Obj.cells #[.int .i64 c, .int .i64 ch, .bool true, .bool k, .int .i64 s, .string d] 37))
  have HX := Lib.hid (Blk.new w [.int .i64 c, .int .i64 ch, .bool true, .bool k, .int .i64 s, .string d] 37)
  clear hB
  go_enter Tryz.func18, Tryz.ntmps18
  go_wp2_with fail
  refine (HN.out _ HF.out).mono ?_
  rintro e w1 ⟨rfl, rfl⟩
  go_wp2_with fail
  refine (HP.out _).mono ?_
  rintro e w1 ⟨rfl, hL1⟩
  have HK1 := Lib.hid (HK.out.below hL1 (by simp))
  have HF1 := Lib.hid (HF.out.below hL1 (by simp; omega))
  have HX1 := Lib.hid (HX.out.below hL1 (by simp))
  have hs1 : w.heap.size + 1 ≤ w1.heap.size := by have := hL1.size; simp at this; omega
  clear hL1
  have c0 := HF1.out.cell 0
  have c1 := HF1.out.cell 1
  have c2 := HF1.out.cell 2
  have c3 := HF1.out.cell 3
  have c4 := HF1.out.cell 4
  have c5 := HF1.out.cell 5
  have c6 := HF1.out.cell 6
  have c7 := HF1.out.cell 7
  simp only [Fm.cells, List.getElem?_cons_zero, List.getElem?_cons_succ] at c0 c1 c2 c3 c4 c5 c6 c7
  have x0 := HX1.out.cell 0
  have x1 := HX1.out.cell 1
  have x2 := HX1.out.cell 2
  have x3 := HX1.out.cell 3
  have x4 := HX1.out.cell 4
  have x5 := HX1.out.cell 5
  simp only [List.getElem?_cons_zero, List.getElem?_cons_succ] at x0 x1 x2 x3 x4 x5
  go_wp2_with fail
  go_quiet (fail)
  refine gen_post (fun w' => Keep [g] w w' ∧ Blk w' g (Fm.mk c hf ⟨ch, lo, wa, re, by_, nx⟩).cells 80 ∧ Blk w' w.heap.size [.int .i64 c, .int .i64 ch, .bool true, .bool k, .int .i64 s, .string d] 37 ∧ w.heap.size + 1 ≤ w'.heap.size) ⟨HK1.out.drewN _, HF1.out.drewN _, HX1.out.drewN _, hs1⟩ ?_
  clear HK1 HF1 HX1 hs1 c0 c1 c2 c3 c4 c5 c6 c7 x0 x1 x2 x3 x4 x5
  rintro w2 ⟨hK2, hF2, hX2, hs2'⟩
  have HK2 := Lib.hid hK2; have HF2 := Lib.hid hF2; have HX2 := Lib.hid hX2; clear hK2 hF2 hX2
  have c0 := HF2.out.cell 0
  have c1 := HF2.out.cell 1
  have c2 := HF2.out.cell 2
  have c3 := HF2.out.cell 3
  have c4 := HF2.out.cell 4
  have c5 := HF2.out.cell 5
  have c6 := HF2.out.cell 6
  have c7 := HF2.out.cell 7
  simp only [Fm.cells, List.getElem?_cons_zero, List.getElem?_cons_succ] at c0 c1 c2 c3 c4 c5 c6 c7
  have x0 := HX2.out.cell 0
  have x1 := HX2.out.cell 1
  have x2 := HX2.out.cell 2
  have x3 := HX2.out.cell 3
  have x4 := HX2.out.cell 4
  have x5 := HX2.out.cell 5
  simp only [List.getElem?_cons_zero, List.getElem?_cons_succ] at x0 x1 x2 x3 x4 x5
  go_wp2_with fail
  refine (HY.out _ HF2.out).mono ?_
  rintro e w3 ⟨rfl, hK3, hF3⟩
  have HK3 := Lib.hid (HK2.out.trans hK3)
  have HF3 := Lib.hid hF3
  clear hK3 hF3
  go_wp2_with fail
  go_ret2
  exact ⟨rfl, HK3.out, HF3.out⟩
end
end
end Go.Proofs.YtgopighmifpefaaGreatDoor
