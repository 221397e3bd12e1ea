/- What is proved here: the walks of Control and of its reference. -/
import Derived.Test.YtbncejmohhejlaaT4
import Derived.BigQuiet
import Derived.OwnWalk
set_option linter.unusedVariables false
set_option linter.unusedSimpArgs false
namespace Go.Proofs.Ytbncejmohhejlaa
open Go.RowKit
def out3 (a : Bool) (n : Int) (b : Bool) : Value := .tuple #[.bool a, .int .i64 n, .bool b]
def dataV (l : List UInt8) : Bool × Int × Bool :=
  match l with
  | [a] => if a = 0 then (true, 0, true) else (false, 0, false)
  | [a, b, n] => if a = 130 ∧ b = 0 then (false, n.toNat, true) else (false, 0, false)
  | _ => (false, 0, false)
def Tc.ctl3 (x : Tc) : Bool × Int × Bool := if x.good && x.ctl then dataV x.data.data.toList else (false, 0, false)
def Tc.ctlV (x : Tc) : Value := out3 x.ctl3.1 x.ctl3.2.1 x.ctl3.2.2
set_option maxHeartbeats 1000000 in
set_option maxRecDepth 100000 in
theorem hasPrefix_no (s : ByteArray) (w : World) (h : s.size < 2) : Calls Try.prog 81 #[.string s, .string ⟨#[130, 0]⟩] w fun e w' => e = .returned (.bool false) ∧ w = w' := by
  go_enter Try.func81, Try.ntmps81
  go_wp2_with fail
  go_ret
  exact ⟨rfl, rfl⟩
set_option maxHeartbeats 1000000 in
set_option maxRecDepth 100000 in
theorem hasPrefix_eq (s : ByteArray) (w : World) (b : Bool) (h : 2 ≤ s.size) (hb : ((s.extract 0 2).toList == [130, 0]) = b) : Calls Try.prog 81 #[.string s, .string ⟨#[130, 0]⟩] w fun e w' => e = .returned (.bool b) ∧ w = w' := by
  go_enter Try.func81, Try.ntmps81
  go_wp2_with fail
  go_ret
  exact ⟨rfl, rfl⟩
theorem ex2_list (s : ByteArray) : (s.extract 0 2).toList = s.data.toList.take 2 := by
  rw [toList_data]; simp [List.extract_eq_take_drop]
theorem hasPrefix_any (s : ByteArray) (w : World) : Calls Try.prog 81 #[.string s, .string ⟨#[130, 0]⟩] w fun e w' => e = .returned (.bool (decide (s.data.toList.take 2 = [130, 0]))) ∧ w = w' := by
  by_cases h : s.size < 2
  · have e : decide (s.data.toList.take 2 = [130, 0]) = false := by
      rw [decide_eq_false_iff_not]; intro e
      have := congrArg List.length e
      simp at this; omega
    rw [e]
    exact hasPrefix_no s w h
  · exact hasPrefix_eq s w _ (by omega) (by rw [ex2_list]; rw [Bool.eq_iff_iff]; simp)
set_option maxHeartbeats 1000000 in
set_option maxRecDepth 100000 in
theorem scut_no (s : ByteArray) (w : World) (h : s.data.toList.take 2 ≠ [130, 0]) : Calls Try.prog 80 #[.string s, .string ⟨#[130, 0]⟩] w fun e w' => e = .returned (.tuple #[.string s, .bool false]) ∧ w = w' := by
  have hp := hasPrefix_any s w
  rw [decide_eq_false h] at hp
  have HP := Lib.hid hp; clear hp h
  go_enter Try.func80, Try.ntmps80
  go_wp2_with fail
  refine HP.out.mono ?_
  rintro e w1 ⟨rfl, rfl⟩
  go_wp2_with fail
  go_ret2
  exact ⟨rfl, rfl⟩
set_option maxHeartbeats 1000000 in
set_option maxRecDepth 100000 in
theorem scut_yes (s : ByteArray) (w : World) (h : s.data.toList.take 2 = [130, 0]) : Calls Try.prog 80 #[.string s, .string ⟨#[130, 0]⟩] w fun e w' => e = .returned (.tuple #[.string (s.extract 2 s.size), .bool true]) ∧ w = w' := by
  have hp := hasPrefix_any s w
  rw [decide_eq_true h] at hp
  have h2 : 2 ≤ s.size := by have := congrArg List.length h; simp at this; omega
  have HP := Lib.hid hp; clear hp h
  go_enter Try.func80, Try.ntmps80
  go_wp2_with fail
  refine HP.out.mono ?_
  rintro e w1 ⟨rfl, rfl⟩
  go_wp2_with fail
  go_ret2
  exact ⟨rfl, rfl⟩
set_option maxHeartbeats 1000000 in
set_option maxRecDepth 100000 in
theorem cut_no (s : ByteArray) (w : World) (h : s.data.toList.take 2 ≠ [130, 0]) : Calls Try.prog 78 #[.string s, .string ⟨#[130, 0]⟩] w fun e w' => e = .returned (.tuple #[.string s, .bool false]) ∧ w = w' := by
  have HP := Lib.hid (scut_no s w h); clear h
  go_enter Try.func78, Try.ntmps78
  go_wp2_with fail
  refine HP.out.mono ?_
  rintro e w1 ⟨rfl, rfl⟩
  go_wp2_with fail
  go_ret2
  exact ⟨rfl, rfl⟩
set_option maxHeartbeats 1000000 in
set_option maxRecDepth 100000 in
theorem cut_yes (s : ByteArray) (w : World) (h : s.data.toList.take 2 = [130, 0]) : Calls Try.prog 78 #[.string s, .string ⟨#[130, 0]⟩] w fun e w' => e = .returned (.tuple #[.string (s.extract 2 s.size), .bool true]) ∧ w = w' := by
  have HP := Lib.hid (scut_yes s w h); clear h
  go_enter Try.func78, Try.ntmps78
  go_wp2_with fail
  refine HP.out.mono ?_
  rintro e w1 ⟨rfl, rfl⟩
  go_wp2_with fail
  go_ret2
  exact ⟨rfl, rfl⟩
theorem three_of (d : ByteArray) (h1 : d.data.toList.take 2 = [130, 0]) (h3 : d.size = 3) : ∃ n, d = ⟨#[130, 0, n]⟩ := by
  obtain ⟨⟨l⟩⟩ := d
  match l, h1, h3 with
  | [a, b, n], h1, _ =>
    simp only [List.take_succ_cons, List.take_zero, List.cons.injEq, and_true] at h1
    exact ⟨n, by rw [h1.1, h1.2]⟩
theorem wrap64_byte (c : UInt8) : wrap64 (c.toNat : Int) = (c.toNat : Int) := by have := c.toNat_lt; unfold wrap64; omega
theorem dataV_three (n : UInt8) : dataV [130, 0, n] = (false, (n.toNat : Int), true) := by simp [dataV]
theorem dataV_else (l : List UInt8) (h0 : l ≠ [0]) (h1 : ¬ (l.take 2 = [130, 0] ∧ l.length = 3)) : dataV l = (false, 0, false) := by
  match l with
  | [] => rfl
  | [a] => simp only [dataV]; rw [if_neg (fun e => h0 (by rw [e]))]
  | [a, b] => rfl
  | [a, b, n] => simp only [dataV]; rw [if_neg (fun e => h1 ⟨by rw [e.1, e.2]; rfl, rfl⟩)]
  | _ :: _ :: _ :: _ :: _ => rfl
set_option maxHeartbeats 4000000 in
set_option maxRecDepth 100000 in
theorem Control_any (x : Tc) (w : World) : Calls Try.prog 64 #[x.val] w fun e w' => e = .returned x.ctlV ∧ Below w.heap.size w w' := by
  have hv := valid_any x
  obtain ⟨c, ch, b, k, s, d⟩ := x
  have HB := Lib.hid (Blk.new w (Tc.mk c ch b k s d).cells 31)
  have HL0 := Lib.hid ((Below.refl w.heap.size w).alloc (Nat.le_refl _) (Obj.cells #[.int .i64 c, .int .i64 ch, .bool b, .bool k, .int .i64 s, .string d] 31))
  unfold Tc.ctlV Tc.ctl3
  obtain ⟨g, hg⟩ : ∃ g, g = (Tc.mk c ch b k s d).good := ⟨_, rfl⟩
  rw [← hg] at hv ⊢
  have hd1 : g = true → 1 ≤ d.size := fun h => ((Tc.good_iff _).1 (hg ▸ h)).1.2.2.2.2.2.2.1
  simp only [Tc.val] at hv ⊢
  have HV := Lib.hid hv; clear hv hg
  by_cases hgk : (g && k) = true
  case neg =>
    rw [if_neg hgk]
    cases g <;> cases k
    all_goals first | (exact absurd rfl hgk) | skip
    all_goals
      clear hgk
      go_enter Try.func64, Try.ntmps64
      go_wp2_with fail
      refine (HV.out _).mono ?_
      rintro e w1 ⟨rfl, hL1⟩
      have HL1 := Lib.hid (HL0.out.trans (hL1.mono HL0.out.size))
      have HB1 := Lib.hid (HB.out.below hL1 (by simp)); clear hL1
      have c0 := HB1.out.cell 0
      have c1 := HB1.out.cell 1
      have c2 := HB1.out.cell 2
      have c3 := HB1.out.cell 3
      have c4 := HB1.out.cell 4
      have c5 := HB1.out.cell 5
      simp only [Tc.cells, List.getElem?_cons_zero, List.getElem?_cons_succ] at c0 c1 c2 c3 c4 c5
      go_wp2_with fail
      refine bodyPost_ret (results_tmp3 rfl _ _ _) rfl ?_
      exact ⟨rfl, HL1.out⟩
  rw [if_pos hgk]
  obtain ⟨rfl, rfl⟩ : g = true ∧ k = true := by simpa using hgk
  have hd1 := hd1 rfl
  clear hgk
  by_cases h0 : d.data.toList = [0]
  · have hd0 : d = ⟨#[0]⟩ := by cases d; simp only at h0; congr 1; exact Array.toList_inj.1 h0
    subst hd0
    go_enter Try.func64, Try.ntmps64
    go_wp2_with fail
    refine (HV.out _).mono ?_
    rintro e w1 ⟨rfl, hL1⟩
    have HL1 := Lib.hid (HL0.out.trans (hL1.mono HL0.out.size))
    have HB1 := Lib.hid (HB.out.below hL1 (by simp)); clear hL1
    have c0 := HB1.out.cell 0
    have c1 := HB1.out.cell 1
    have c2 := HB1.out.cell 2
    have c3 := HB1.out.cell 3
    have c4 := HB1.out.cell 4
    have c5 := HB1.out.cell 5
    simp only [Tc.cells, List.getElem?_cons_zero, List.getElem?_cons_succ] at c0 c1 c2 c3 c4 c5
    go_wp2_with fail
    refine bodyPost_ret (results_tmp3 rfl _ _ _) rfl ?_
    exact ⟨rfl, HL1.out⟩
  by_cases h1 : d.data.toList.take 2 = [130, 0]
  · by_cases h3 : d.size = 3
    · obtain ⟨n, hn⟩ : ∃ n, d = ⟨#[130, 0, n]⟩ := three_of d h1 h3
      subst hn
      clear h0 h1 h3 hd1
      have hc := fun w => cut_yes ⟨#[130, 0, n]⟩ w rfl
      rw [show (ByteArray.mk #[130, 0, n]).extract 2 (ByteArray.mk #[130, 0, n]).size = ⟨#[n]⟩ from rfl] at hc
      have HC := Lib.hid hc; clear hc
      go_enter Try.func64, Try.ntmps64
      go_wp2_with fail
      refine (HV.out _).mono ?_
      rintro e w1 ⟨rfl, hL1⟩
      have HL1 := Lib.hid (HL0.out.trans (hL1.mono HL0.out.size))
      have HB1 := Lib.hid (HB.out.below hL1 (by simp)); clear hL1
      have c0 := HB1.out.cell 0
      have c1 := HB1.out.cell 1
      have c2 := HB1.out.cell 2
      have c3 := HB1.out.cell 3
      have c4 := HB1.out.cell 4
      have c5 := HB1.out.cell 5
      simp only [Tc.cells, List.getElem?_cons_zero, List.getElem?_cons_succ] at c0 c1 c2 c3 c4 c5
      go_wp2_with fail
      refine (HC.out _).mono ?_
      rintro e w2 ⟨rfl, rfl⟩
      go_wp2_with fail
      go_quiet (fail)
      go_wp2_with fail
      refine bodyPost_ret (results_tmp3 rfl _ _ _) rfl ?_
      refine ⟨?_, HL1.out.trans ((below_quiet w1 _).1.mono HL1.out.size)⟩
      have e : dataV (ByteArray.mk #[130, 0, n]).data.toList = (false, (n.toNat : Int), true) := dataV_three n
      rw [e]
      have e2 := wrap64_byte n
      show _ = Ending.returned (.tuple #[.bool false, .int .i64 (n.toNat : Int), .bool true])
      rw [← e2]
      rfl
    · have hnv : dataV d.data.toList = (false, 0, false) := dataV_else _ h0 (fun h => h3 (by simpa using h.2))
      have hf0 : (d.toList == [0]) = false := by rw [toList_data]; simpa using h0
      rw [hnv]
      have h2 : 2 ≤ d.size := by have := congrArg List.length h1; simp at this; omega
      clear h0 hnv
      have hc := fun w => cut_yes d w h1
      obtain ⟨sx, hsx⟩ : ∃ sx, sx = d.extract 2 d.size := ⟨_, rfl⟩
      have hs1 : ((sx.size : Int) == 1) = false := by rw [hsx]; simp; omega
      rw [← hsx] at hc
      have HC := Lib.hid hc; clear hc hsx h1 h3
      go_enter Try.func64, Try.ntmps64
      go_wp2_with fail
      refine (HV.out _).mono ?_
      rintro e w1 ⟨rfl, hL1⟩
      have HL1 := Lib.hid (HL0.out.trans (hL1.mono HL0.out.size))
      have HB1 := Lib.hid (HB.out.below hL1 (by simp)); clear hL1
      have c0 := HB1.out.cell 0
      have c1 := HB1.out.cell 1
      have c2 := HB1.out.cell 2
      have c3 := HB1.out.cell 3
      have c4 := HB1.out.cell 4
      have c5 := HB1.out.cell 5
      simp only [Tc.cells, List.getElem?_cons_zero, List.getElem?_cons_succ] at c0 c1 c2 c3 c4 c5
      go_wp2_with fail
      refine (HC.out _).mono ?_
      rintro e w2 ⟨rfl, rfl⟩
      go_wp2_with fail
      refine bodyPost_ret (results_tmp3 rfl _ _ _) rfl ?_
      exact ⟨rfl, HL1.out⟩
  · have hnv : dataV d.data.toList = (false, 0, false) := dataV_else _ h0 (fun h => h1 h.1)
    have hf0 : (d.toList == [0]) = false := by rw [toList_data]; simpa using h0
    rw [hnv]
    clear h0 hnv
    have hc := fun w => cut_no d w h1
    have HC := Lib.hid hc; clear hc h1
    go_enter Try.func64, Try.ntmps64
    go_wp2_with fail
    refine (HV.out _).mono ?_
    rintro e w1 ⟨rfl, hL1⟩
    have HL1 := Lib.hid (HL0.out.trans (hL1.mono HL0.out.size))
    have HB1 := Lib.hid (HB.out.below hL1 (by simp)); clear hL1
    have c0 := HB1.out.cell 0
    have c1 := HB1.out.cell 1
    have c2 := HB1.out.cell 2
    have c3 := HB1.out.cell 3
    have c4 := HB1.out.cell 4
    have c5 := HB1.out.cell 5
    simp only [Tc.cells, List.getElem?_cons_zero, List.getElem?_cons_succ] at c0 c1 c2 c3 c4 c5
    go_wp2_with fail
    refine (HC.out _).mono ?_
    rintro e w2 ⟨rfl, rfl⟩
    go_wp2_with fail
    refine bodyPost_ret (results_tmp3 rfl _ _ _) rfl ?_
    exact ⟨rfl, HL1.out⟩
end Go.Proofs.Ytbncejmohhejlaa
