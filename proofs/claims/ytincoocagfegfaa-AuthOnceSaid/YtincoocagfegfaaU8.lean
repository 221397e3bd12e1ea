/- What is proved here: the walk of Restore of guards. -/
import Derived.Test.YtincoocagfegfaaU7
import Derived.Test.YtincoocagfegfaaOl
set_option linter.unusedVariables false
set_option linter.unusedSimpArgs false
namespace Go.Proofs.Ytincoocagfegfaa
open Go.RowKit
/-- The index of the newest saved text among the first k, and its serial number. -/
def bestK (S : Nat → ByteArray) : Nat → Int × BitVec 64
  | 0 => (-1, 0#64)
  | k + 1 =>
    let b := bestK S k
    if isSaved (S k).data.toList && (decide (b.1 < 0) || decide (b.2.toNat < (readL (S k).data.toList).ser.toNat)) then ((k : Int), (readL (S k).data.toList).ser) else b
theorem bestK_le (S : Nat → ByteArray) (k : Nat) : -1 ≤ (bestK S k).1 ∧ (bestK S k).1 < k := by
  induction k with
  | zero => simp [bestK]
  | succ k ih =>
    simp only [bestK]
    split
    · simp; omega
    · have := ih.2; have := ih.1; constructor <;> omega
def restV (S : Nat → ByteArray) (n : Nat) : Value := if (bestK S n).1 < 0 then .tuple #[.string ⟨#[]⟩, .int .i64 (-1)] else .tuple #[.string (S (bestK S n).1.toNat), .int .i64 (bestK S n).1]
theorem decide_w64 (a b : BitVec 64) : decide (w64 a < w64 b) = decide (a.toNat < b.toNat) := by
  unfold w64; simp
set_option maxHeartbeats 4000000 in
set_option maxRecDepth 100000 in
theorem aRestore_any (a : Option Addr) (n cap : Nat) (S : Nat → ByteArray) (w : World) (hn : n ≤ 9223372036854775807) (hS : RowAt w a n (fun i => .string (S i))) (hz : ∀ i, i < n → (S i).size ≤ 1000000) :
    Calls Try.prog 12 #[.slice a n cap] w fun e w' => e = .returned (restV S n) ∧ Below w.heap.size w w' := by
  have HS := Lib.hid hS
  have HSV := Lib.hid (fun i (h : i < n) w => asaved_any (S i) w (hz i h))
  have HX := Lib.hid (Blk.new w Gs.zero.cells 43)
  have HL := Lib.hid ((Below.refl w.heap.size w).alloc (Nat.le_refl _) (Obj.cells Gs.zero.cells.toArray 43))
  clear hS hz
  go_enter Try.func12, Try.ntmps12
  go_wp2_with fail
  go_loopw [5, 13] (fun bv i wr => ∃ k : Nat, k ≤ n ∧ i = .int .i64 k ∧ bv = .int .i64 (bestK S k).1 ∧ Below w.heap.size w wr ∧ ∃ s : Gs, s.ser = (bestK S k).2 ∧ Blk wr w.heap.size s.cells 43) (fun _ i _ => n - (intOf i).toNat)
  case atStart => exact ⟨0, by omega, rfl, rfl, HL.out, Gs.zero, rfl, HX.out⟩
  case round =>
    clear HL HX
    obtain ⟨k, hk, rfl, rfl, hL, s, hs, hB⟩ := hrel
    have HL := Lib.hid hL; have HB := Lib.hid hB; clear hL hB
    have hbl := (bestK_le S k).1
    have hbu := (bestK_le S k).2
    by_cases hlt : k < n
    · obtain ⟨bb, off, rfl, hbb, hC⟩ := HS.out k hlt
      have c0 : wr.cell? ⟨bb, off + k, none⟩ = some (.string (S k)) := (HL.out.cell (p := ⟨bb, off + k, none⟩) hbb).trans hC
      have hsv := HSV.out k hlt
      have hbk : bestK S (k + 1) = if isSaved (S k).data.toList && (decide ((bestK S k).1 < 0) || decide ((bestK S k).2.toNat < (readL (S k).data.toList).ser.toNat)) then ((k : Int), (readL (S k).data.toList).ser) else bestK S k := rfl
      obtain ⟨t, ht⟩ : ∃ t, t = S k := ⟨_, rfl⟩
      rw [← ht] at c0 hsv hbk
      rw [← hs] at hbk
      obtain ⟨bi, hbi⟩ : ∃ bi, bi = (bestK S k).1 := ⟨_, rfl⟩
      rw [← hbi] at hbk hbl hbu ⊢
      obtain ⟨r, b, hsv2, hrb⟩ : ∃ (r : Gs) (b : Bool), savedV t.data.toList = .tuple #[r.val, .bool b] ∧ b = isSaved t.data.toList ∧ (b = true → r = readL t.data.toList) := by
        unfold savedV isSaved
        by_cases h : t.data.toList.length = 76
        · rw [if_pos h]; exact ⟨_, _, rfl, by rw [decide_eq_true h, Bool.true_and], fun _ => rfl⟩
        · rw [if_neg h]; exact ⟨Gs.zero, false, rfl, by rw [decide_eq_false h, Bool.false_and], by simp⟩
      rw [hsv2] at hsv
      rw [← hrb.1] at hbk
      have hbk2 : bestK S (k + 1) = if (b && (decide (bi < 0) || decide (s.ser.toNat < r.ser.toNat))) = true then ((k : Int), r.ser) else bestK S k := by
        rw [hbk]
        cases b
        · rfl
        · rw [hrb.2 rfl]
      have HK := Lib.hid hbk2
      have HBI := Lib.hid hbi
      simp only [Gs.val, vu] at hsv
      have HV := Lib.hid hsv
      clear hsv hsv2 hrb hbk hbk2 ht hbi hC
      have HS2 := Lib.hid hs
      clear hs
      go_wp2_with fail
      refine (HV.out _).mono ?_
      rintro e w2 ⟨rfl, hL⟩
      replace HL := Lib.hid (HL.out.trans (hL.mono HL.out.size))
      replace HB := Lib.hid (HB.out.below hL HB.out.lt)
      have hne : w.heap.size ≠ w2.heap.size := Nat.ne_of_lt HB.out.lt
      clear hL HV c0
      have hB9 := HB.out
      simp only [Gs.cells, vu] at hB9
      have HB9 := Lib.hid hB9
      clear hB9
      have HZ9 := Lib.hid (HB9.out.alloc (Obj.cells #[.int .u64 (w64 r.ser), .int .u64 (w64 (r.l 0)), .int .u64 (w64 (r.l 1)), .int .u64 (w64 (r.l 2)), .int .u64 (w64 (r.l 3)), .int .u64 (w64 (r.l 4)), .int .u64 (w64 (r.l 5)), .int .u64 (w64 (r.l 6)), .int .u64 (w64 (r.l 7))] 43))
      have z0 := HZ9.out.cell 0
      have z1 := HZ9.out.cell 1
      have z2 := HZ9.out.cell 2
      have z3 := HZ9.out.cell 3
      have z4 := HZ9.out.cell 4
      have z5 := HZ9.out.cell 5
      have z6 := HZ9.out.cell 6
      have z7 := HZ9.out.cell 7
      have z8 := HZ9.out.cell 8
      simp only [List.getElem?_cons_zero, List.getElem?_cons_succ] at z0 z1 z2 z3 z4 z5 z6 z7 z8
      have f0 := HZ9.out.free 0
      have f1 := HZ9.out.free 1
      have f2 := HZ9.out.free 2
      have f3 := HZ9.out.free 3
      have f4 := HZ9.out.free 4
      have f5 := HZ9.out.free 5
      have f6 := HZ9.out.free 6
      have f7 := HZ9.out.free 7
      have f8 := HZ9.out.free 8
      have hLn := HL.out.alloc HL.out.size (Obj.cells #[.int .u64 (w64 r.ser), .int .u64 (w64 (r.l 0)), .int .u64 (w64 (r.l 1)), .int .u64 (w64 (r.l 2)), .int .u64 (w64 (r.l 3)), .int .u64 (w64 (r.l 4)), .int .u64 (w64 (r.l 5)), .int .u64 (w64 (r.l 6)), .int .u64 (w64 (r.l 7))] 43)
      have HLn := Lib.hid hLn
      clear hLn
      have HD := Lib.hid (decide_w64 s.ser r.ser)
      cases b
      · have HB1 := Lib.hid (show (false && (decide (bi < 0) || decide (s.ser.toNat < r.ser.toNat))) = false from rfl)
        go_wp2_with fail
        go_roundw
        case rel => exact ⟨k + 1, by omega, by go_num, by rw [HK.out, if_neg (by rw [HB1.out]; exact Bool.false_ne_true), ← HBI.out], HL.out.alloc HL.out.size _, s, by rw [HK.out, if_neg (by rw [HB1.out]; exact Bool.false_ne_true)]; exact HS2.out, HB.out.alloc _⟩
        case measure => simp [intOf]; omega
      · by_cases h1 : bi < 0
        · have d1 : decide (bi < 0) = true := decide_eq_true h1
          have HB1 := Lib.hid (show (true && (decide (bi < 0) || decide (s.ser.toNat < r.ser.toNat))) = true by rw [d1]; rfl)
          go_wp2_with fail
          go_roundw
          case rel => exact ⟨k + 1, by omega, by go_num, by rw [HK.out, if_pos HB1.out], (((((((((HLn.out.setCell (Nat.le_refl _) _).setCell (Nat.le_refl _) _).setCell (Nat.le_refl _) _).setCell (Nat.le_refl _) _).setCell (Nat.le_refl _) _).setCell (Nat.le_refl _) _).setCell (Nat.le_refl _) _).setCell (Nat.le_refl _) _).setCell (Nat.le_refl _) _), r, by rw [HK.out, if_pos HB1.out], ((((((((((HB.out.alloc _).set 0 _).set 1 _).set 2 _).set 3 _).set 4 _).set 5 _).set 6 _).set 7 _).set 8 _)⟩
          case measure => simp [intOf]; omega
        · have d1 : decide (bi < 0) = false := decide_eq_false h1
          by_cases h2 : s.ser.toNat < r.ser.toNat
          · have d2 : decide (w64 s.ser < w64 r.ser) = true := by rw [HD.out]; exact decide_eq_true h2
            have HB1 := Lib.hid (show (true && (decide (bi < 0) || decide (s.ser.toNat < r.ser.toNat))) = true by rw [d1, decide_eq_true h2]; rfl)
            clear h2
            go_wp2_with fail
            go_roundw
            case rel => exact ⟨k + 1, by omega, by go_num, by rw [HK.out, if_pos HB1.out], (((((((((HLn.out.setCell (Nat.le_refl _) _).setCell (Nat.le_refl _) _).setCell (Nat.le_refl _) _).setCell (Nat.le_refl _) _).setCell (Nat.le_refl _) _).setCell (Nat.le_refl _) _).setCell (Nat.le_refl _) _).setCell (Nat.le_refl _) _).setCell (Nat.le_refl _) _), r, by rw [HK.out, if_pos HB1.out], ((((((((((HB.out.alloc _).set 0 _).set 1 _).set 2 _).set 3 _).set 4 _).set 5 _).set 6 _).set 7 _).set 8 _)⟩
            case measure => simp [intOf]; omega
          · have d2 : decide (w64 s.ser < w64 r.ser) = false := by rw [HD.out]; exact decide_eq_false h2
            have HB1 := Lib.hid (show (true && (decide (bi < 0) || decide (s.ser.toNat < r.ser.toNat))) = false by rw [d1, decide_eq_false h2]; rfl)
            clear h2
            go_wp2_with fail
            go_roundw
            case rel => exact ⟨k + 1, by omega, by go_num, by rw [HK.out, if_neg (by rw [HB1.out]; exact Bool.false_ne_true), ← HBI.out], HL.out.alloc HL.out.size _, s, by rw [HK.out, if_neg (by rw [HB1.out]; exact Bool.false_ne_true)]; exact HS2.out, HB.out.alloc _⟩
            case measure => simp [intOf]; omega
    · obtain rfl : k = n := by omega
      have hrv : restV S k = if (bestK S k).1 < 0 then .tuple #[.string ⟨#[]⟩, .int .i64 (-1)] else .tuple #[.string (S (bestK S k).1.toNat), .int .i64 (bestK S k).1] := rfl
      obtain ⟨bi, hbi⟩ : ∃ bi, bi = (bestK S k).1 := ⟨_, rfl⟩
      rw [← hbi] at hrv hbl hbu ⊢
      by_cases h1 : bi < 0
      · rw [if_pos h1] at hrv
        have HRV := Lib.hid hrv
        have d1 : decide (bi < 0) = true := decide_eq_true h1
        clear hrv hbi
        go_wp2_with fail
        go_ret2
        exact ⟨by rw [HRV.out]; rfl, HL.out⟩
      · rw [if_neg h1] at hrv
        obtain ⟨j, hj⟩ : ∃ j : Nat, bi = j := ⟨bi.toNat, by omega⟩
        subst hj
        have HRV := Lib.hid hrv
        have hjn : j < k := by omega
        obtain ⟨bb, off, rfl, hbb, hC⟩ := HS.out j hjn
        have c0 : wr.cell? ⟨bb, off + j, none⟩ = some (.string (S j)) := (HL.out.cell (p := ⟨bb, off + j, none⟩) hbb).trans hC
        clear hrv hbi h1
        go_wp2_with fail
        go_ret2
        exact ⟨by rw [HRV.out]; rfl, HL.out⟩
end Go.Proofs.Ytincoocagfegfaa
