/- What is proved here: the walk of the reference's Restore. -/
import Derived.Test.YtincoocagfegfaaU16
import Derived.Test.YtincoocagfegfaaU8
import Derived.Test.YtincoocagfegfaaCalm
set_option linter.unusedVariables false
set_option linter.unusedSimpArgs false
namespace Go.Proofs.Ytincoocagfegfaa
open Go.RowKit
set_option maxHeartbeats 4000000 in
set_option maxRecDepth 100000 in
theorem qRestore_any (a : Option Addr) (n cap : Nat) (S : Nat → ByteArray) (w : World) (hn : n ≤ 9223372036854775807) (hS : RowAt w a n (fun i => .string (S i))) :
    Calls Try.prog 13 #[.slice a n cap] w fun e w' => e = .returned (restV S n) ∧ Below w.heap.size w w' := by
  have HS := Lib.hid hS
  clear hS
  go_enter Try.func13, Try.ntmps13
  go_wp2_with fail
  go_loopw [4, 5, 6] (fun bv gv i wr => ∃ k : Nat, k ≤ n ∧ i = .int .i64 k ∧ bv = .int .i64 (bestK S k).1 ∧ gv = .int .u64 (w64 (bestK S k).2) ∧ Below w.heap.size w wr) (fun _ _ i _ => n - (intOf i).toNat)
  case atStart => exact ⟨0, by omega, rfl, rfl, rfl, Below.refl _ _⟩
  case round =>
    obtain ⟨k, hk, rfl, rfl, rfl, hL⟩ := hrel
    have HL := Lib.hid hL; clear hL
    have hbl := (bestK_le S k).1
    have hbu := (bestK_le S k).2
    by_cases hlt : k < n
    · obtain ⟨bb, off, rfl, hbb, hC⟩ := HS.out k hlt
      have c0 : wr.cell? ⟨bb, off + k, none⟩ = some (.string (S k)) := (HL.out.cell (p := ⟨bb, off + k, none⟩) hbb).trans hC
      have hbk : bestK S (k + 1) = if isSaved (S k).data.toList && (decide ((bestK S k).1 < 0) || decide ((bestK S k).2.toNat < (readL (S k).data.toList).ser.toNat)) then ((k : Int), (readL (S k).data.toList).ser) else bestK S k := rfl
      have hsh := fun h W => qread_short (S k) W h
      have hlo := fun h W => qread_any (S k) W h
      obtain ⟨t, ht⟩ : ∃ t, t = S k := ⟨_, rfl⟩
      rw [← ht] at c0 hbk hsh hlo
      obtain ⟨bi, hbi⟩ : ∃ bi, bi = (bestK S k).1 := ⟨_, rfl⟩
      obtain ⟨bs, hbs⟩ : ∃ bs, bs = (bestK S k).2 := ⟨_, rfl⟩
      obtain ⟨r, hr⟩ : ∃ r, r = readL t.data.toList := ⟨_, rfl⟩
      rw [← hbi, ← hbs, ← hr] at hbk
      rw [← hbi] at hbl hbu
      rw [← hr] at hlo
      rw [← hbi, ← hbs]
      have HBI := Lib.hid hbi
      have HBS := Lib.hid hbs
      have HD := Lib.hid (decide_w64 bs r.ser)
      clear hbi hbs hr ht hC
      by_cases h76 : t.size = 76
      · have HR := Lib.hid (hlo h76)
        clear hsh hlo h76
        obtain ⟨b, hb⟩ : ∃ b, b = isSaved t.data.toList := ⟨_, rfl⟩
        rw [← hb] at HR hbk
        have HK := Lib.hid hbk
        clear hb hbk
        cases b
        · have HB1 := Lib.hid (show (false && (decide (bi < 0) || decide (bs.toNat < r.ser.toNat))) = false from rfl)
          go_wp2_with fail
          refine (HR.out _).mono ?_
          rintro e w2 ⟨g, rfl, hg, -, hL⟩
          replace HL := Lib.hid (HL.out.trans (hL.mono HL.out.size))
          clear hL c0
          go_wp2_with fail
          go_roundw
          case rel => exact ⟨k + 1, by omega, by go_num, by rw [HK.out, if_neg (by rw [HB1.out]; exact Bool.false_ne_true), ← HBI.out], by rw [HK.out, if_neg (by rw [HB1.out]; exact Bool.false_ne_true), ← HBS.out], HL.out⟩
          case measure => simp [intOf]; omega
        · go_wp2_with fail
          refine (HR.out _).mono ?_
          rintro e w2 ⟨g, rfl, hg, hB, hL⟩
          replace HL := Lib.hid (HL.out.trans (hL.mono HL.out.size))
          have b1 := Blk.cell hB 1
          simp only [Gs.cells, vu, List.getElem?_cons_zero, List.getElem?_cons_succ] at b1
          clear hL c0 hB
          by_cases h1 : bi < 0
          · have d1 : decide (bi < 0) = true := decide_eq_true h1
            have HB1 := Lib.hid (show (true && (decide (bi < 0) || decide (bs.toNat < r.ser.toNat))) = true by rw [d1]; rfl)
            go_upto_region 8 with fail
            go_quiet (fail)
            go_wp2_with fail
            go_roundw
            case rel => exact ⟨k + 1, by omega, by go_num, by rw [HK.out, if_pos HB1.out], by rw [HK.out, if_pos HB1.out], HL.out.trans ((below_quiet _ _).1.mono HL.out.size)⟩
            case measure => simp [intOf]; omega
          · have d1 : decide (bi < 0) = false := decide_eq_false h1
            by_cases h2 : bs.toNat < r.ser.toNat
            · have d2 : decide (w64 bs < w64 r.ser) = true := by rw [HD.out]; exact decide_eq_true h2
              have HB1 := Lib.hid (show (true && (decide (bi < 0) || decide (bs.toNat < r.ser.toNat))) = true by rw [d1, decide_eq_true h2]; rfl)
              clear h2
              go_upto_region 8 with fail
              go_quiet (fail)
              go_wp2_with fail
              go_roundw
              case rel => exact ⟨k + 1, by omega, by go_num, by rw [HK.out, if_pos HB1.out], by rw [HK.out, if_pos HB1.out], HL.out.trans ((below_quiet _ _).1.mono HL.out.size)⟩
              case measure => simp [intOf]; omega
            · have d2 : decide (w64 bs < w64 r.ser) = false := by rw [HD.out]; exact decide_eq_false h2
              have HB1 := Lib.hid (show (true && (decide (bi < 0) || decide (bs.toNat < r.ser.toNat))) = false by rw [d1, decide_eq_false h2]; rfl)
              clear h2
              go_wp2_with fail
              go_roundw
              case rel => exact ⟨k + 1, by omega, by go_num, by rw [HK.out, if_neg (by rw [HB1.out]; exact Bool.false_ne_true), ← HBI.out], by rw [HK.out, if_neg (by rw [HB1.out]; exact Bool.false_ne_true), ← HBS.out], HL.out⟩
              case measure => simp [intOf]; omega
      · have HR := Lib.hid (hsh h76)
        have hf : isSaved t.data.toList = false := by
          unfold isSaved
          rw [decide_eq_false (by simpa using h76), Bool.false_and]
        rw [hf, Bool.false_and, if_neg Bool.false_ne_true] at hbk
        have HK := Lib.hid hbk
        clear hsh hlo h76 hf hbk
        go_wp2_with fail
        refine (HR.out _).mono ?_
        rintro e w2 ⟨rfl, hL⟩
        replace HL := Lib.hid (HL.out.trans (hL.mono HL.out.size))
        clear hL c0
        go_wp2_with fail
        go_roundw
        case rel => exact ⟨k + 1, by omega, by go_num, by rw [HK.out, ← HBI.out], by rw [HK.out, ← HBS.out], HL.out⟩
        case measure => simp [intOf]; omega
    · obtain rfl : k = n := by omega
      have hrv : restV S k = if (bestK S k).1 < 0 then .tuple #[.string ⟨#[]⟩, .int .i64 (-1)] else .tuple #[.string (S (bestK S k).1.toNat), .int .i64 (bestK S k).1] := rfl
      obtain ⟨bi, hbi⟩ : ∃ bi, bi = (bestK S k).1 := ⟨_, rfl⟩
      rw [← hbi] at hrv hbl hbu ⊢
      by_cases h1 : bi < 0
      · rw [if_pos h1] at hrv
        have HRV := Lib.hid hrv
        have d1 : decide (bi < 0) = true := decide_eq_true h1
        clear hrv hbi
        go_wp2_with fail
        go_ret2
        exact ⟨by rw [HRV.out]; rfl, HL.out⟩
      · rw [if_neg h1] at hrv
        obtain ⟨j, hj⟩ : ∃ j : Nat, bi = j := ⟨bi.toNat, by omega⟩
        subst hj
        have HRV := Lib.hid hrv
        have hjn : j < k := by omega
        obtain ⟨bb, off, rfl, hbb, hC⟩ := HS.out j hjn
        have c0 : wr.cell? ⟨bb, off + j, none⟩ = some (.string (S j)) := (HL.out.cell (p := ⟨bb, off + j, none⟩) hbb).trans hC
        clear hrv hbi h1
        go_wp2_with fail
        go_ret2
        exact ⟨by rw [HRV.out]; rfl, HL.out⟩
end Go.Proofs.Ytincoocagfegfaa
