/- What is proved here: the walk of the text of a guard's state. -/
import Derived.Test.YtincoocagfegfaaU4
set_option linter.unusedVariables false
set_option linter.unusedSimpArgs false
namespace Go.Proofs.Ytincoocagfegfaa
open Go.RowKit
/-- What a guard saves: a serial number, and the last counters of eight channels. -/
structure Gs where
  ser : BitVec 64
  l : Nat → BitVec 64
def Gs.cells (s : Gs) : List Value := [vu s.ser, vu (s.l 0), vu (s.l 1), vu (s.l 2), vu (s.l 3), vu (s.l 4), vu (s.l 5), vu (s.l 6), vu (s.l 7)]
def Gs.val (s : Gs) : Value := .agg #[vu s.ser, vu (s.l 0), vu (s.l 1), vu (s.l 2), vu (s.l 3), vu (s.l 4), vu (s.l 5), vu (s.l 6), vu (s.l 7)]
def Gs.arr (s : Gs) : Value := .agg #[vu (s.l 0), vu (s.l 1), vu (s.l 2), vu (s.l 3), vu (s.l 4), vu (s.l 5), vu (s.l 6), vu (s.l 7)]
def bodyT (s : Gs) : List UInt8 := be8 s.ser ++ (List.range 8).flatMap (fun i => be8 (s.l i))
def be4 (x : BitVec 32) : List UInt8 := (be8 (x.setWidth 64)).drop 4
def textL (s : Gs) : List UInt8 := bodyT s ++ be4 (sum32 (bodyT s))
theorem arr_at (s : Gs) (k : Nat) (h : k < 8) (W : World) : (Instr.index 41 s.arr (.int .i64 (k : Int))).run Try.prog W = .ok (vu (s.l k)) W := by
  have h0 : (Instr.index 41 s.arr (.int .i64 0)).run Try.prog W = .ok (vu (s.l 0)) W := by kernel_rfl
  have h1 : (Instr.index 41 s.arr (.int .i64 1)).run Try.prog W = .ok (vu (s.l 1)) W := by kernel_rfl
  have h2 : (Instr.index 41 s.arr (.int .i64 2)).run Try.prog W = .ok (vu (s.l 2)) W := by kernel_rfl
  have h3 : (Instr.index 41 s.arr (.int .i64 3)).run Try.prog W = .ok (vu (s.l 3)) W := by kernel_rfl
  have h4 : (Instr.index 41 s.arr (.int .i64 4)).run Try.prog W = .ok (vu (s.l 4)) W := by kernel_rfl
  have h5 : (Instr.index 41 s.arr (.int .i64 5)).run Try.prog W = .ok (vu (s.l 5)) W := by kernel_rfl
  have h6 : (Instr.index 41 s.arr (.int .i64 6)).run Try.prog W = .ok (vu (s.l 6)) W := by kernel_rfl
  have h7 : (Instr.index 41 s.arr (.int .i64 7)).run Try.prog W = .ok (vu (s.l 7)) W := by kernel_rfl
  match k, h with
  | 0, _ => exact h0
  | 1, _ => exact h1
  | 2, _ => exact h2
  | 3, _ => exact h3
  | 4, _ => exact h4
  | 5, _ => exact h5
  | 6, _ => exact h6
  | 7, _ => exact h7
set_option maxHeartbeats 2000000 in
set_option maxRecDepth 100000 in
theorem aput_any (n : BitVec 64) (kb base : Nat) (v : Value) (xs : List UInt8) (W : World) (hB : Blk W kb [v] 54) (hkb : kb < base) (hb : base ≤ W.heap.size) (hx : xs.length ≤ 1000000) (hR : Row W base v xs) :
    Calls Try.prog 36 #[.int .u64 (w64 n), .pointer (some ⟨kb, 0, none⟩)] W fun e w' => e = .returned (.tuple #[]) ∧ ∃ v', Blk w' kb [v'] 54 ∧ Row w' base v' (xs ++ be8 n) ∧ Below kb W w' := by
  have HB := Lib.hid hB
  have HR := Lib.hid hR
  have c0 := hB.cell 0
  simp only [List.getElem?_cons_zero] at c0
  clear hB hR
  go_enter Try.func36, Try.ntmps36
  go_wp2_with fail
  refine (aapp_any base v xs n 0 8 _ (by simp) (by simp) hb hx HR.out).mono ?_
  rintro e w1 ⟨v1, rfl, hR1, hL1⟩
  simp only [List.drop_zero] at hR1
  have HB1 := Lib.hid (HB.out.below hL1 hkb)
  have f0 := HB1.out.free 0
  have c1 := HB1.out.cell 0
  simp only [List.getElem?_cons_zero] at c1
  obtain ⟨m, hm⟩ : ∃ m, m = xs ++ be8 n := ⟨_, rfl⟩
  rw [← hm] at hR1
  obtain ⟨a1, k1, rfl⟩ := row_form hR1
  have HM := Lib.hid hm
  have HR1 := Lib.hid hR1
  have HL1 := Lib.hid hL1
  clear hR1 hL1 c0 hm
  go_wp2_with fail
  go_end0
  refine ⟨rfl, _, HB1.out.set 0 _, ?_, ?_⟩
  · have K := (Keep.refl [kb] w1).setCell (p := ⟨kb, 0, none⟩) (.inl (by simp)) (Value.slice a1 m.length k1)
    rw [← HM.out]
    exact row_keep HR1.out K (fun g hg => by have := (row_lt HR1.out g hg).1; simp; omega)
  · have K := (Keep.refl [kb] w1).setCell (p := ⟨kb, 0, none⟩) (.inl (by simp)) (Value.slice a1 m.length k1)
    exact (HL1.out.mono (by omega)).trans (K.toBelowAt (B := kb) (by have := HB1.out.lt; omega) (by simp))
theorem bodyT_take (s : Gs) (k : Nat) : (List.range (k + 1)).flatMap (fun i => be8 (s.l i)) = (List.range k).flatMap (fun i => be8 (s.l i)) ++ be8 (s.l k) := by
  rw [List.range_succ, List.flatMap_append]; simp
theorem be8s_length (s : Gs) (k : Nat) : ((List.range k).flatMap (fun i => be8 (s.l i))).length = 8 * k := by
  induction k with
  | zero => simp
  | succ k ih => rw [bodyT_take, List.length_append, ih, be8_length']; omega
theorem wrap_u64_w32 (x : BitVec 32) : IntKind.u64.wrap (w32 x) = w64 (x.setWidth 64) := by
  have := x.isLt
  unfold w32 w64
  rw [IntKind.wrap_u64]
  simp
theorem sum32_new (l : List UInt8) (W : World) (h : l.length ≤ 1000) : Calls Try.prog 37 #[.string ⟨l.toArray⟩] W fun e w' => ∃ v, e = .returned v ∧ (v = .int .u32 (w32 (sum32 l)) ∧ Below W.heap.size W w') :=
  (Sum32_any ⟨l.toArray⟩ W (by show l.toArray.size ≤ _; simp; omega)).mono fun e w' h => ⟨_, h.1, rfl, h.2⟩
theorem app4_any (base : Nat) (v : Value) (xs : List UInt8) (x : BitVec 32) (W : World) (hb : base ≤ W.heap.size) (hx : xs.length ≤ 1000000) (hR : Row W base v xs) :
    Calls Try.prog 19 #[v, .int .u64 (IntKind.u64.wrap (w32 x)), .int .i64 4] W fun e w' => ∃ v', e = .returned v' ∧ Row w' base v' (xs ++ be4 x) ∧ Below base W w' := by
  rw [wrap_u64_w32]
  exact aapp_any base v xs (x.setWidth 64) 4 4 W (by simp) (by simp) hb hx hR
set_option maxHeartbeats 4000000 in
set_option maxRecDepth 100000 in
theorem atext_any (s : Gs) (w : World) : Calls Try.prog 29 #[s.val] w fun e w' => e = .returned (strOf (textL s)) ∧ Below w.heap.size w w' := by
  have HIX := Lib.hid (arr_at s)
  have HX := Lib.hid (Blk.new w s.cells 43)
  have HL := Lib.hid ((Below.refl w.heap.size w).alloc (Nat.le_refl _) (Obj.cells s.cells.toArray 43))
  have HT := Lib.hid (show textL s = (be8 s.ser ++ (List.range 8).flatMap (fun i => be8 (s.l i))) ++ be4 (sum32 (be8 s.ser ++ (List.range 8).flatMap (fun i => be8 (s.l i)))) from rfl)
  have HBT := Lib.hid (fun k => bodyT_take s k)
  have HLN := Lib.hid (fun k => be8s_length s k)
  simp only [Gs.val, Gs.arr, Gs.cells] at HIX HX HL ⊢
  go_enter Try.func29, Try.ntmps29
  go_wp2_with fail
  refine (aput_any s.ser (w.heap.size + 1) (w.heap.size + 2) (.slice none 0 0) [] _ (Blk.new_at _ [.slice none 0 0] 54 _ (by simp)) (by omega) (by simp) (by simp) (row_nil _ _)).mono ?_
  rintro e w1 ⟨rfl, v1, hB1, hR1, hL1⟩
  have HB1 := Lib.hid hB1
  have HR1 := Lib.hid hR1
  have HX1 := Lib.hid ((HX.out.alloc (Obj.cells #[.slice none 0 0] 54)).below hL1 (by omega))
  have HL1 := Lib.hid ((HL.out.alloc HL.out.size (Obj.cells #[.slice none 0 0] 54)).trans (hL1.mono (by omega)))
  clear hB1 hR1 hL1 HX HL
  have x0 := HX1.out.cell 0
  have x1 := HX1.out.cell 1
  have x2 := HX1.out.cell 2
  have x3 := HX1.out.cell 3
  have x4 := HX1.out.cell 4
  have x5 := HX1.out.cell 5
  have x6 := HX1.out.cell 6
  have x7 := HX1.out.cell 7
  have x8 := HX1.out.cell 8
  simp only [List.getElem?_cons_zero, List.getElem?_cons_succ] at x0 x1 x2 x3 x4 x5 x6 x7 x8
  go_wp2_with fail
  go_loopw [14] (fun i wr => ∃ k : Nat, k ≤ 8 ∧ i = .int .i64 k ∧ Below w.heap.size w wr ∧ ∃ v, Blk wr (w.heap.size + 1) [v] 54 ∧ Row wr (w.heap.size + 2) v (be8 s.ser ++ (List.range k).flatMap (fun i => be8 (s.l i)))) (fun i _ => 8 - (intOf i).toNat)
  case atStart => exact ⟨0, by omega, rfl, HL1.out, v1, HB1.out, by simpa using HR1.out⟩
  case round =>
    clear HB1 HR1 HX1 HL1 x0 x1 x2 x3 x4 x5 x6 x7 x8
    obtain ⟨k, hk, rfl, hL, v, hB, hR⟩ := hrel
    have HL := Lib.hid hL; have HB := Lib.hid hB; have HR := Lib.hid hR; clear hL hB hR
    by_cases hlt : k < 8
    · have hix := HIX.out k hlt
      go_wp2_with fail
      refine (aput_any (s.l k) (w.heap.size + 1) (w.heap.size + 2) v _ _ HB.out (by omega) (by have := HB.out.lt; omega) (by simp [HLN.out, be8_length']; omega) HR.out).mono ?_
      rintro e w2 ⟨rfl, v2, hB2, hR2, hL2⟩
      have HB2 := Lib.hid hB2
      have HR2 := Lib.hid hR2
      have HL2 := Lib.hid (HL.out.trans (hL2.mono (by omega)))
      clear hB2 hR2 hL2
      go_wp2_with fail
      go_roundw
      case rel => exact ⟨k + 1, by omega, by go_num, HL2.out, v2, HB2.out, by rw [HBT.out, ← List.append_assoc]; exact HR2.out⟩
      case measure => simp [intOf]; omega
    · obtain rfl : k = 8 := by omega
      obtain ⟨l, hl⟩ : ∃ l, l = be8 s.ser ++ (List.range 8).flatMap (fun i => be8 (s.l i)) := ⟨_, rfl⟩
      rw [← hl] at HR HT
      have hls : l.length ≤ 100 := by rw [hl]; simp [HLN.out, be8_length']
      obtain ⟨a, c, rfl⟩ := row_form HR.out
      have hcv := run_string (row_keep HR.out ((Keep.refl [] wr).drew) (fun _ _ => by simp))
      have c0 := HB.out.cell 0
      simp only [List.getElem?_cons_zero] at c0
      obtain ⟨x, hx⟩ : ∃ x, x = sum32 l := ⟨_, rfl⟩
      have h32 := fun W => sum32_new l W (by omega)
      rw [← hx] at h32 HT
      have H32 := Lib.hid h32
      have HA := Lib.hid (fun W (h : Row W (w.heap.size + 2) (.slice a l.length c) l) (hb : w.heap.size + 2 ≤ W.heap.size) => app4_any (w.heap.size + 2) (.slice a l.length c) l x W hb (by omega) h)
      have hlw : w.heap.size + 2 ≤ wr.heap.size := by have := HB.out.lt; omega
      clear hl hx h32
      go_upto_region 9 with fail
      go_region_law (first | (refine step_call rfl 37 _ _ rfl #[.string ⟨l.toArray⟩] (by kernel_rfl) _ (H32.out _) ?_; rintro v5 w5 ⟨rfl, hL5⟩; have y0 := (hL5.cell (p := ⟨w.heap.size + 1, 0, none⟩) HB.out.lt).trans c0; have hR5 := row_below (row_keep HR.out ((Keep.refl [] wr).drew) (fun _ _ => by simp)) hL5 (Nat.le_refl _); have hw5 : w.heap.size + 2 ≤ w5.heap.size := Nat.le_trans hlw hL5.size) | (refine step_call rfl 19 _ _ rfl #[.slice a l.length c, .int .u64 (IntKind.u64.wrap (w32 x)), .int .i64 4] (by kernel_rfl) _ (HA.out _ hR5 hw5) ?_; rintro v6 w6 ⟨hR6, hL6⟩; have hcv6 := run_string hR6))
      all_goals
        go_wp2_with fail
        go_ret
        refine ⟨?_, (HL.out.trans ((below_quiet wr 1).1.mono HL.out.size)).trans ((hL5.mono (by simp; omega)).trans (hL6.mono (by omega)))⟩
        rw [HT.out]; rfl
end Go.Proofs.Ytincoocagfegfaa
