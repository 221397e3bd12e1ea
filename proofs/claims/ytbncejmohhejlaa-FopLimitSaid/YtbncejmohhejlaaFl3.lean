/- What is proved here: the walk of the law about the limit of transmissions. -/
import Derived.Test.YtbncejmohhejlaaFl2
set_option linter.unusedVariables false
set_option linter.unusedSimpArgs false
namespace Go.Proofs.Ytbncejmohhejlaa
open Go.RowKit
set_option maxHeartbeats 8000000 in
set_option maxRecDepth 100000 in
theorem FopLimit_out (a b c tm : Int) (sv : Value) (many : Int) (w : World) (ht : tm < 1 ∨ 1073741824 < tm) :
    Calls Try.prog 4 #[.agg #[.int .i64 a, .int .i64 b, .int .i64 c, .int .i64 tm, sv], .int .i64 many] w fun e w' => e = .returned (.bool true) ∧ Below w.heap.size w w' := by
  have HL := Lib.hid ((Below.refl w.heap.size w).alloc (Nat.le_refl _) (Obj.cells #[.int .i64 a, .int .i64 b, .int .i64 c, .int .i64 tm, sv] 50))
  have HO := Lib.hid (Blk.new w [.int .i64 a, .int .i64 b, .int .i64 c, .int .i64 tm, sv] 50)
  have HC := Lib.hid ht
  clear ht
  go_enter Try.func4, Try.ntmps4
  go_wp2_with fail
  refine (shown15_any _).mono ?_
  rintro e w1 ⟨rfl, hL⟩
  replace HO := Lib.hid (HO.out.below hL HO.out.lt)
  replace HL := Lib.hid (HL.out.trans (hL.mono HL.out.size))
  clear hL
  have x0 := HO.out.cell 0
  have x1 := HO.out.cell 1
  have x2 := HO.out.cell 2
  have x3 := HO.out.cell 3
  have x4 := HO.out.cell 4
  simp only [List.getElem?_cons_zero, List.getElem?_cons_succ] at x0 x1 x2 x3 x4
  rcases HC.out with hc | hc
  · have k1 : tm < 1 := hc
    go_wp2_with fail
    go_ret
    exact ⟨rfl, HL.out⟩
  · have k1 : ¬ tm < 1 := by omega
    have k2 : 1073741824 < tm := hc
    go_wp2_with fail
    go_ret
    exact ⟨rfl, HL.out⟩
set_option maxHeartbeats 8000000 in
set_option maxRecDepth 100000 in
theorem FopLimit_in (a b c tm : Int) (sv : Value) (many : Int) (w : World) (ha : I64 a) (hb : I64 b) (hc : I64 c) (hm : I64 many) (ht1 : 1 ≤ tm) (ht2 : tm ≤ 1073741824) :
    Calls Try.prog 4 #[.agg #[.int .i64 a, .int .i64 b, .int .i64 c, .int .i64 tm, sv], .int .i64 many] w fun e w' => e = .returned (.bool true) ∧ Below w.heap.size w w' := by
  have HL := Lib.hid ((Below.refl w.heap.size w).alloc (Nat.le_refl _) (Obj.cells #[.int .i64 a, .int .i64 b, .int .i64 c, .int .i64 tm, sv] 50))
  have HO := Lib.hid (Blk.new w [.int .i64 a, .int .i64 b, .int .i64 c, .int .i64 tm, sv] 50)
  have PA := Lib.hid (fun W => pick_any a 127 W (by omega) (by omega) ha.1 ha.2)
  have PB := Lib.hid (fun W => pick_any b 100 W (by omega) (by omega) hb.1 hb.2)
  have PC := Lib.hid (fun W => pick_any c 256 W (by omega) (by omega) hc.1 hc.2)
  have PM := Lib.hid (fun W => pick_any many 60 W (by omega) (by omega) hm.1 hm.2)
  clear ha hb hc hm
  have k1 : ¬ tm < 1 := by omega
  have k2 : ¬ 1073741824 < tm := by omega
  go_enter Try.func4, Try.ntmps4
  go_wp2_with fail
  refine (shown15_any _).mono ?_
  rintro e w1 ⟨rfl, hL⟩
  replace HO := Lib.hid (HO.out.below hL HO.out.lt)
  replace HL := Lib.hid (HL.out.trans (hL.mono HL.out.size))
  clear hL
  have x0 := HO.out.cell 0
  have x1 := HO.out.cell 1
  have x2 := HO.out.cell 2
  have x3 := HO.out.cell 3
  have x4 := HO.out.cell 4
  simp only [List.getElem?_cons_zero, List.getElem?_cons_succ] at x0 x1 x2 x3 x4
  have a0 : 0 ≤ a % 127 := by omega
  have a1 : a % 127 < 127 := by omega
  have b0 : 0 ≤ b % 100 := by omega
  have b1 : b % 100 < 100 := by omega
  go_upto_region 6 with fail
  have hwa : IntKind.i64.wrap (1 + a % 127) = 1 + a % 127 := IntWalk.i64_in _ (by omega)
  have hwb : IntKind.i64.wrap (1 + b % 100) = 1 + b % 100 := IntWalk.i64_in _ (by omega)
  go_quiet ((first | (go_at_call_of 9 (Value.int .i64 a); exact quiet_lft (PA.out _)) | (go_at_call_of 9 (Value.int .i64 b); exact quiet_lft (PB.out _))))
  refine post_any (fun W => Below w.heap.size w W ∧ Blk W w.heap.size [.int .i64 a, .int .i64 b, .int .i64 c, .int .i64 tm, sv] 50) ⟨HL.out.trans ((below_quiet w1 _).1.mono HL.out.size), HO.out.drewN _⟩ ?_
  clear HL HO x0 x1 x2 x3 x4
  rintro w2 ⟨hL, hO⟩
  have HL := Lib.hid hL; have HO := Lib.hid hO; clear hL hO
  obtain ⟨k, hk⟩ : ∃ k, k = 1 + a % 127 := ⟨_, rfl⟩
  obtain ⟨N, hN⟩ : ∃ N : Nat, (N : Int) = 1 + b % 100 := ⟨(1 + b % 100).toNat, by omega⟩
  rw [← hk, ← hN]
  have hk1 : 1 ≤ k := by omega
  have hk2 : k ≤ 127 := by omega
  have hN1 : 1 ≤ N := by omega
  have hN2 : N ≤ 100 := by omega
  clear hk hN a0 a1 b0 b1 hwa hwb PA PB
  go_wp2_with fail
  refine (foNew_ok 1 2 k N tm _ (by omega) (by omega) (by omega) (by omega) hk1 hk2 (by omega) (by omega) ht1 ht2).mono ?_
  rintro e w3 ⟨rfl, hL3, hI⟩
  obtain ⟨g, hg⟩ : ∃ g, g = w2.heap.size := ⟨_, rfl⟩
  rw [← hg] at hI ⊢
  have HX := Lib.hid (show Fx w2 w3 g [] (newF 1 2 k N tm) from Fx.start hg hL3 hI)
  have HO3 := Lib.hid (HO.out.below hL3 HO.out.lt)
  clear hL3 hI hg
  have x0 := HO3.out.cell 0
  have x1 := HO3.out.cell 1
  have x2 := HO3.out.cell 2
  have x3 := HO3.out.cell 3
  have x4 := HO3.out.cell 4
  simp only [List.getElem?_cons_zero, List.getElem?_cons_succ] at x0 x1 x2 x3 x4
  go_wp2_with fail
  refine (PC.out _).mono ?_
  rintro e _ ⟨rfl, rfl⟩
  have c0 : 0 ≤ c % 256 := by omega
  have c1 : c % 256 ≤ 255 := by omega
  obtain ⟨s, hs⟩ : ∃ s, s = c % 256 := ⟨_, rfl⟩
  rw [← hs] at c0 c1 ⊢
  clear hs x0 x1 x2 x3 x4 PC
  go_wp2_with fail
  obtain ⟨S1, hI, hlt, hnx, hgv⟩ := HX.out.call
  refine (Begin_ok 1 s (newF 1 2 k N tm) g S1 _ (by omega) (by omega) c0 c1 rfl (show k ≠ 0 by omega) hI).mono ?_
  rintro e w4 ⟨rfl, hT⟩
  obtain ⟨hX, hR⟩ := hnx hT
  replace HX := Lib.hid (show Fx w2 w4 g [] (limB k N tm s) from hX)
  clear hI hlt hnx hgv hX hR hT
  go_wp2_with fail
  refine (PM.out _).mono ?_
  rintro e _ ⟨rfl, rfl⟩
  obtain ⟨u, hu⟩ : ∃ u : Nat, (u : Int) = 1 + many % 60 := ⟨(1 + many % 60).toNat, by omega⟩
  have hu1 : 1 ≤ u := by omega
  have hu2 : u ≤ 60 := by omega
  have hwu : IntKind.i64.wrap (1 + many % 60) = (u : Int) := by rw [← hu]; exact IntWalk.i64_in _ (by omega)
  have HU := Lib.hid hu; clear hu PM
  go_wp2_with fail
  clear hwu
  go_loopw [12] (fun iv wr => ∃ i : Nat, i ≤ u ∧ iv = .int .i64 i ∧ Fx w2 wr g [] { limB k N tm s with last := i, waiting := unitsN i }) (fun iv _ => u - (intOf iv).toNat)
  case atStart => exact ⟨0, by omega, rfl, HX.out⟩
  case round =>
    obtain ⟨i, hi, rfl, hX⟩ := hrel
    have HX := Lib.hid hX; clear hX
    by_cases hlt : i < u
    · have hbs := byte_string wr i (UInt8.ofNat i) (by rw [UInt8.toNat_ofNat']; omega)
      have HA := Lib.hid (HX.out.below ((Below.refl _ _).alloc (Nat.le_refl _) (Obj.cells #[.int .u8 (i : Int)] 5)))
      have hi60 : i < 60 := by omega
      go_wp2_with fail
      clear hbs
      obtain ⟨S1, hI, hlt2, hnx, hgv⟩ := HA.out.call
      refine (lim_send k N tm s i g S1 _ hi60 hk1 hI).mono ?_
      rintro e w5 ⟨rfl, hT⟩
      obtain ⟨hX, hR⟩ := hnx hT
      have HX5 := Lib.hid hX
      clear hI hlt2 hnx hgv hX hR hT
      go_wp2_with fail
      go_roundw
      case rel => exact ⟨i + 1, by omega, by go_num, HX5.out⟩
      case measure => simp [intOf]; omega
    · obtain rfl : i = u := by omega
      clear hlt hi
      obtain ⟨m, hm⟩ : ∃ m : Nat, m = min i k.toNat := ⟨_, rfl⟩
      have hmk : (m : Int) ≤ k := by omega
      have hmu : m ≤ i := by omega
      have hm1 : 1 ≤ m := by omega
      have HMK := Lib.hid (show (m : Int) = k ∨ m = i by omega)
      have hmin : (if k < (i : Int) then k else (i : Int)) = (m : Int) := by split <;> omega
      have HM := Lib.hid hm; clear hm
      have HX0 := Lib.hid (show Fx w2 wr g [] (limSt k N tm s i m N 1) by unfold limSt; rw [if_pos hN1, ← stR_first (limB k N tm s) i m rfl rfl rfl]; exact HX.out)
      clear HX
      go_wp2_with fail
      go_loopw [15] (fun iv wr => ∃ r : Nat, 1 ≤ r ∧ r ≤ N + 1 ∧ iv = .int .i64 r ∧ Fx w2 wr g [] (limSt k N tm s i m N r)) (fun iv _ => N + 1 - (intOf iv).toNat)
      case atStart => exact ⟨1, by omega, by omega, rfl, HX0.out⟩
      case round =>
        obtain ⟨r, hr1, hr2, rfl, hX⟩ := hrel
        by_cases hrN : r ≤ N
        · have HX := Lib.hid (show Fx w2 wr g [] (stR (limB k N tm s) i m r 0) by unfold limSt at hX; rw [if_pos hrN] at hX; exact hX)
          clear hX
          go_wp2_with fail
          go_loopw [16] (fun iv wr => ∃ j : Nat, j ≤ m ∧ iv = .int .i64 j ∧ Fx w2 wr g [] (stR (limB k N tm s) i m r j)) (fun iv _ => m - (intOf iv).toNat)
          case atStart => exact ⟨0, by omega, rfl, HX.out⟩
          case round =>
            obtain ⟨j, hj, rfl, hX⟩ := hrel
            have HX := Lib.hid hX; clear hX
            by_cases hlt : j < m
            · have hlt2 : (j : Int) < (m : Int) := by omega
              go_wp2_with fail
              obtain ⟨S1, hI, hl, hnx, hgv⟩ := HX.out.call
              refine (lim_next k N tm s i m r j g S1 _ hr1 c0 c1 hk1 hk2 hlt hmu hu2 hmk hl hI).mono ?_
              rintro e w5 ⟨rfl, hT⟩
              obtain ⟨hX, hR⟩ := hnx hT
              have HX5 := Lib.hid hX
              clear hI hl hnx hgv hX hR hT
              obtain ⟨b1, hb1⟩ : ∃ b, b = w5.heap.size := ⟨_, rfl⟩
              go_upto_region 25 with fail
              rw [← hb1]
              refine gen_world (fun W => Fx w2 W g [] (stR (limB k N tm s) i m r (j + 1)) ∧ Blk W b1 [.int .i64 1, .int .i64 2, .bool false, .bool false, .int .i64 ((s + (j : Int)) % 256), .string ⟨#[UInt8.ofNat j]⟩] 31) ⟨HX5.out.below ((Below.refl _ _).alloc (Nat.le_refl _) _), by rw [hb1]; exact Blk.new w5 _ 31⟩ ?_
              clear HX5 HX hb1
              rintro w6 ⟨hX, hB⟩
              have HX := Lib.hid hX
              have x0 := hB.cell 0; have x1 := hB.cell 1; have x2 := hB.cell 2; have x3 := hB.cell 3; have x4 := hB.cell 4; have x5 := hB.cell 5
              simp only [List.getElem?_cons_zero, List.getElem?_cons_succ] at x0 x1 x2 x3 x4 x5
              have hbs := byte_string w6 j (UInt8.ofNat j) (by rw [UInt8.toNat_ofNat']; omega)
              have HA := Lib.hid (HX.out.below ((Below.refl _ _).alloc (Nat.le_refl _) (Obj.cells #[.int .u8 (j : Int)] 5)))
              have hB2 := hB.alloc (Obj.cells #[.int .u8 (j : Int)] 5)
              have y0 := hB2.cell 0; have y1 := hB2.cell 1; have y2 := hB2.cell 2
              simp only [List.getElem?_cons_zero, List.getElem?_cons_succ] at y0 y1 y2
              clear hX hB hB2
              go_wp2_with fail
              go_roundw
              case rel => exact ⟨j + 1, by omega, by go_num, HA.out⟩
              case measure => simp [intOf]; omega
            · obtain rfl : j = m := by omega
              have hlt2 : ¬ (j : Int) < (j : Int) := by omega
              go_wp2_with fail
              obtain ⟨S1, hI, hl, hnx, hgv⟩ := HX.out.call
              refine (lim_none k N tm s i j r g S1 _ hk1 hmu hu2 HMK.out hl hI).mono ?_
              rintro e w5 ⟨rfl, hT⟩
              obtain ⟨hX, hR⟩ := hnx hT
              replace HX := Lib.hid (hX.below ((Below.refl _ _).alloc (Nat.le_refl _) (Obj.cells #[.int .i64 0, .int .i64 0, .bool false, .bool false, .int .i64 0, .string ⟨#[]⟩] 31)))
              clear hI hl hnx hgv hX hR hT hlt hlt2
              go_wp2_with fail
              obtain ⟨S1, hI, hl, hnx, hgv⟩ := HX.out.call
              refine (lim_wait k N tm s i j r g S1 _ hk1 ht1 ht2 hmu hm1 hI).mono ?_
              rintro e w6 ⟨rfl, hT⟩
              obtain ⟨hX, hR⟩ := hnx hT
              replace HX := Lib.hid hX
              clear hI hl hnx hgv hX hR hT
              go_wp2_with fail
              obtain ⟨S1, hI, hl, hnx, hgv⟩ := HX.out.call
              by_cases hrn : r < N
              · have hrn2 : (r : Int) < (N : Int) := by omega
                have hrn3 : ((r : Int) == (N : Int)) = false := by simp only [beq_eq_false_iff_ne, ne_eq]; omega
                refine (lim_again k N tm s i j r g S1 _ hk1 hr1 hrn2 (by omega) hmu hm1 hu2 hI).mono ?_
                rintro e w7 ⟨rfl, hT⟩
                obtain ⟨hX, hR⟩ := hnx hT
                replace HX := Lib.hid hX
                clear hI hl hnx hgv hX hR hT
                go_wp2_with fail
                go_roundw
                case rel => exact ⟨r + 1, by omega, by omega, by go_num, by unfold limSt; rw [if_pos (by omega)]; exact HX.out⟩
                case measure => simp [intOf]; omega
              · obtain rfl : r = N := by omega
                have hrn2 : ¬ (r : Int) < (r : Int) := by omega
                refine (lim_alert k r tm s i j r g S1 _ hk1 rfl hN1 hmu hm1 hu2 hI).mono ?_
                rintro e w7 ⟨v, S2, rfl, hP, hG⟩
                obtain ⟨hX, hQ, hR⟩ := hgv hP hG
                replace HX := Lib.hid hX
                clear hI hl hnx hgv hX hR hP hG
                obtain ⟨q, o, cv, hv, -, hql, -, hcl, -⟩ := q_cells hQ (by decide)
                subst hv
                have r0 := hcl 0 _ rfl; have r1 := hcl 1 _ rfl; have r2 := hcl 2 _ rfl
                simp only [Nat.add_zero] at r0
                have hA : Below w7.heap.size w7 (w7.alloc (Obj.cells #[.int .i64 3, .int .i64 0, .int .i64 1] 46)) := (Below.refl _ _).alloc (Nat.le_refl _) _
                have HE := Lib.hid (Blk.new w7 [.int .i64 3, .int .i64 0, .int .i64 1] 46)
                have HX7 := Lib.hid (HX.out.below hA)
                have HSM := Lib.hid (same_one 3 0 1 q o w7.heap.size 0 cv 1 _ ((hA.cell (p := ⟨q, o, none⟩) hql).trans r0) ((hA.cell (p := ⟨q, o + 1, none⟩) hql).trans r1) ((hA.cell (p := ⟨q, o + 2, none⟩) hql).trans r2) (HE.out.cell 0) (HE.out.cell 1) (HE.out.cell 2))
                clear hcl hQ hA
                go_wp2_with fail
                refine HSM.out.mono ?_
                rintro e w8 ⟨rfl, hL⟩
                have HX8 := Lib.hid (HX7.out.below hL)
                clear hL
                go_wp2_with fail
                go_roundw
                case rel => exact ⟨r + 1, by omega, by omega, by go_num, by unfold limSt; rw [if_neg (by omega)]; exact HX8.out.sub (fun x hx => by cases hx)⟩
                case measure => simp [intOf]
        · obtain rfl : r = N + 1 := by omega
          have HX := Lib.hid (show Fx w2 wr g [] (limEnd k N tm s i m N) by unfold limSt at hX; rw [if_neg hrN] at hX; exact hX)
          clear hX
          go_wp2_with fail
          obtain ⟨S1, hI, hl, hnx, hgv⟩ := HX.out.call
          refine (lim_down k N tm s i m N g S1 _ hk1 hl hI).mono ?_
          rintro e w5 ⟨rfl, hT⟩
          obtain ⟨hX, hR⟩ := hnx hT
          replace HX := Lib.hid (hX.below ((Below.refl _ _).alloc (Nat.le_refl _) (Obj.cells #[.int .i64 0, .int .i64 0, .bool false, .bool false, .int .i64 0, .string ⟨#[]⟩] 31)))
          clear hI hl hnx hgv hX hR hT
          go_wp2_with fail
          obtain ⟨S1, hI, -⟩ := HX.out.call
          refine (lim_ready k N tm s i m N g S1 _ hk1 hI).mono ?_
          rintro e w6 ⟨rfl, rfl⟩
          go_wp2_with fail
          refine (lim_sent0 k N tm s i m N g S1 _ hk1 hI).mono ?_
          rintro e w6 ⟨rfl, rfl⟩
          go_wp2_with fail
          refine (lim_wait0 k N tm s i m N g S1 _ hk1 hI).mono ?_
          rintro e w6 ⟨rfl, rfl⟩
          clear hI
          go_wp2_with fail
          obtain ⟨S1, hI, hl, hnx, hgv⟩ := HX.out.call
          refine (lim_begin k N tm s i m N g S1 _ hk1 hI).mono ?_
          rintro e w6 ⟨rfl, hT⟩
          obtain ⟨hX, hR⟩ := hnx hT
          replace HX := Lib.hid hX
          clear hI hl hnx hgv hX hR hT
          go_wp2_with fail
          go_ret
          exact ⟨rfl, HL.out.trans (HX.out.toBelow.mono HL.out.size)⟩
theorem FopLimit_any (a b c tm : Int) (sv : Value) (many : Int) (w : World) (ha : I64 a) (hb : I64 b) (hc : I64 c) (hm : I64 many) :
    Calls Try.prog 4 #[.agg #[.int .i64 a, .int .i64 b, .int .i64 c, .int .i64 tm, sv], .int .i64 many] w fun e w' => e = .returned (.bool true) ∧ Below w.heap.size w w' := by
  by_cases ht : tm < 1 ∨ 1073741824 < tm
  · exact FopLimit_out a b c tm sv many w ht
  · exact FopLimit_in a b c tm sv many w ha hb hc hm (by omega) (by omega)
end Go.Proofs.Ytbncejmohhejlaa
