/- What is proved here: a unit with inverted bits has another sum; the walk of the law about them. -/
import Derived.Test.YtkpgenmlpkfokaaN31
import Derived.Test.YtkpgenmlpkfokaaFlp
import Derived.Test.YtkpgenmlpkfokaaN35
import Derived.Deep.LoopGhost
set_option linter.unusedVariables false
set_option linter.unusedSimpArgs false
namespace Go.Proofs.Ytkpgenmlpkfokaa
open Go.RowKit
theorem beN_crc (r : BitVec 16) : beN 2 (w16 r) = crcBytes r := by
  unfold crcBytes loB w16
  have h := r.isLt
  have h1 : (r >>> 8).toNat = r.toNat / 256 := by rw [BitVec.toNat_ushiftRight, Nat.shiftRight_eq_div_pow]
  rw [h1]
  show [byt ((r.toNat : Int) / 2 ^ (8 * 1)), byt ((r.toNat : Int) / 2 ^ (8 * 0))] = _
  have e1 : (r.toNat : Int) / 2 ^ (8 * 1) = ((r.toNat / 256 : Nat) : Int) := by simp
  have e2 : (r.toNat : Int) / 2 ^ (8 * 0) = (r.toNat : Int) := by simp
  rw [e1, e2, byt_nat, byt_nat]
  congr 1
  · apply UInt8.toNat_inj.1
    rw [UInt8.toNat_ofNat', UInt8.toNat_ofNat']; omega
  · congr 1
    apply UInt8.toNat_inj.1
    rw [UInt8.toNat_ofNat', UInt8.toNat_ofNat']; omega
theorem sumB_closed (l : List UInt8) : sumB l = closed l := by unfold sumB closed; rw [beN_crc]
theorem getS_flips (u : Un) (hv : validS u = true) (k0 bits : Nat) (h0 : bits ≠ 0) (h : bits < 65536) (hk : k0 + 16 ≤ 8 * (encU u).length) : getS ⟨(flips (encU u) k0 bits 16).toArray⟩ = (Un.zero, 370) := by
  have hlen := encU_len u hv
  obtain ⟨b, hb⟩ : ∃ b : ByteArray, b = ⟨(flips (encU u) k0 bits 16).toArray⟩ := ⟨_, rfl⟩
  rw [← hb]
  have hbl : b.data.toList = flips (encU u) k0 bits 16 := by rw [hb]
  have hsz : b.size = (encU u).length := by rw [size_list, hbl, flips_len]
  unfold getS
  rw [if_neg (not_not_intro (by omega)), if_pos]
  intro hs
  have hz : sum16 b.data.toList = 0#16 := by rw [← hs, sumB_closed]; exact flp_closed_zero _
  rw [hbl] at hz
  unfold encU at hz hk
  rw [sumB_closed] at hz hk
  exact flips_sum _ k0 bits h0 h hk hz
theorem flipOf_at (L : List UInt8) (n : Int) (k : Nat) (hn : n = k) (hk : k < 8 * L.length) : flipOf L n = flipAt L k := by
  unfold flipOf
  rw [if_neg (by intro e; rw [e] at hk; simp at hk), hn]
  congr 1
  rw [← Int.natCast_emod, Int.toNat_natCast]
  exact Nat.mod_eq_of_lt hk
set_option maxHeartbeats 8000000 in
set_option maxRecDepth 100000 in
theorem UnitsFlips_any (u : Un) (gv : Value) (at_ b : Int) (w : World) (hG : GapsAt w gv u.gaps) (hi : intsU u) (hn : u.name.size ≤ 9223372036854775807) (hd : u.data.size ≤ 9223372036854775807) (hl : u.gaps.length ≤ 9223372036854775807) (ha1 : -9223372036854775808 ≤ at_) (ha2 : at_ ≤ 9223372036854775807) (hb1 : 0 ≤ b) (hb2 : b ≤ 65535) :
    Calls Try.prog 7 #[u.val gv, .int .i64 at_, .int .u16 b] w fun e w' => e = .returned (.bool true) ∧ Below w.heap.size w w' := by
  obtain ⟨B, rfl⟩ : ∃ B : Nat, b = B := ⟨b.toNat, by omega⟩
  have hB : B < 65536 := by omega
  obtain ⟨ga, gc, hgv, -⟩ := id hG
  have HGR := Lib.hid (fun W (h : GapsAt W gv u.gaps) => great_any u gv W hl h)
  have HPU := Lib.hid (fun W (h : GapsAt W gv u.gaps) (hg : u.gaps.length ≤ 1000) => uPut_wide u gv W hn hd hg hi h)
  have HX0 := Lib.hid (Blk.new w (u.cells gv) 25)
  have HL0 := Lib.hid ((Below.refl w.heap.size w).alloc (Nat.le_refl _) (Obj.cells (u.cells gv).toArray 25))
  have HG0 := Lib.hid (hG.below ((Below.refl w.heap.size w).alloc (Nat.le_refl _) (Obj.cells (u.cells gv).toArray 25)) (Nat.le_refl _))
  have HPO := Lib.hid (show validS u = true → putS u = (encU u, 0) from fun h => by unfold putS; rw [if_pos h])
  have HPN := Lib.hid (show validS u = false → putS u = ([], 2) from fun h => by unfold putS; rw [if_neg (by rw [h]; exact Bool.false_ne_true)])
  have HLEN := Lib.hid (show validS u = true → 6 ≤ (encU u).length ∧ (encU u).length ≤ 167 from encU_len u)
  have HGF := Lib.hid (show ∀ k0, validS u = true → B ≠ 0 → k0 + 16 ≤ 8 * (encU u).length → ∀ W, Calls Try.prog 17 #[.string ⟨(flips (encU u) k0 B 16).toArray⟩] W fun e w' => ∃ a c, e = .returned (.tuple #[.agg #[.int .i64 0, .int .i64 0, .string ⟨#[]⟩, .int .i64 0, .int .u32 0, .int .i64 0, .string ⟨#[]⟩, .int .i64 0, .int .i64 0, .bool false, .slice a 0 c], .int .i64 370]) ∧ Below W.heap.size W w' from fun k0 hv h0 hk W => (uGet_any _ W).mono fun e w' hh => by
    obtain ⟨gg, he, hG2, hL2⟩ := hh
    rw [getS_flips u hv k0 B h0 hB hk] at he hG2
    obtain ⟨a, c, rfl, -⟩ := hG2
    exact ⟨a, c, he, hL2⟩)
  clear hG hi hn hd hl
  obtain ⟨qv, hq⟩ : ∃ q, q = validS u := ⟨_, rfl⟩
  obtain ⟨L, hL⟩ : ∃ L, L = encU u := ⟨_, rfl⟩
  obtain ⟨P, hP⟩ : ∃ P, P = putS u := ⟨_, rfl⟩
  rw [← hq] at HPO HPN HLEN HGF
  rw [← hP] at HPU HPO HPN
  rw [← hL] at HPO HLEN HGF
  clear hq hL hP
  subst hgv
  obtain ⟨ki, nu, nm, sz, su, of, da, wy, an, me, gs⟩ := u
  simp only [Un.cells, Un.val] at HGR HPU HX0 HL0 HG0 ⊢
  cases qv
  · clear HGF HLEN HPO
    go_enter Try.func7, Try.ntmps7
    go_wp2_with fail
    refine (shown37_any _).mono ?_
    rintro e w1 ⟨rfl, hL1⟩
    have HX1 := Lib.hid (HX0.out.below hL1 HX0.out.lt)
    have HG1 := Lib.hid (HG0.out.below hL1 (Nat.le_refl _))
    have HL1 := Lib.hid (HL0.out.trans (hL1.mono HL0.out.size)); clear hL1 HL0 HX0 HG0
    have x0 := HX1.out.cell 0
    have x1 := HX1.out.cell 1
    have x2 := HX1.out.cell 2
    have x3 := HX1.out.cell 3
    have x4 := HX1.out.cell 4
    have x5 := HX1.out.cell 5
    have x6 := HX1.out.cell 6
    have x7 := HX1.out.cell 7
    have x8 := HX1.out.cell 8
    have x9 := HX1.out.cell 9
    have x10 := HX1.out.cell 10
    simp only [List.getElem?_cons_zero, List.getElem?_cons_succ] at x0 x1 x2 x3 x4 x5 x6 x7 x8 x9 x10
    go_wp2_with fail
    refine (HGR.out _ HG1.out).mono ?_
    rintro e w2 ⟨bg, rfl, hbg, hL2⟩
    have HX2 := Lib.hid (HX1.out.below hL2 HX1.out.lt)
    have HG2 := Lib.hid (HG1.out.below hL2 (Nat.le_refl _))
    have HL2 := Lib.hid (HL1.out.trans (hL2.mono HL1.out.size)); clear hL2 HL1 HX1 HG1 x0 x1 x2 x3 x4 x5 x6 x7 x8 x9 x10
    cases bg
    · have hgs := hbg rfl
      have HGS := Lib.hid (show gs.length ≤ 1000 by omega)
      clear hbg hgs
      have x0 := HX2.out.cell 0
      have x1 := HX2.out.cell 1
      have x2 := HX2.out.cell 2
      have x3 := HX2.out.cell 3
      have x4 := HX2.out.cell 4
      have x5 := HX2.out.cell 5
      have x6 := HX2.out.cell 6
      have x7 := HX2.out.cell 7
      have x8 := HX2.out.cell 8
      have x9 := HX2.out.cell 9
      have x10 := HX2.out.cell 10
      simp only [List.getElem?_cons_zero, List.getElem?_cons_succ] at x0 x1 x2 x3 x4 x5 x6 x7 x8 x9 x10
      go_wp2_with fail
      refine (HPU.out _ HG2.out HGS.out).mono ?_
      rintro e w3 ⟨rfl, hL3⟩
      have HL3 := Lib.hid (HL2.out.trans (hL3.mono HL2.out.size)); clear hL3 HL2 HX2 HG2 x0 x1 x2 x3 x4 x5 x6 x7 x8 x9 x10
      rw [HPN.out (by first | exact rfl | trivial)]
      dsimp only
      simp only [strOf]
      go_wp2_with fail
      go_ret
      exact ⟨rfl, HL3.out⟩
    · go_wp2_with fail
      go_ret
      exact ⟨rfl, HL2.out⟩
  · obtain ⟨le1, le2⟩ := HLEN.out (by first | exact rfl | trivial)
    by_cases h0 : B = 0
    · have k0 : ((B : Int) == 0) = true := by simp [h0]
      clear h0 HGF
      go_enter Try.func7, Try.ntmps7
      go_wp2_with fail
      refine (shown37_any _).mono ?_
      rintro e w1 ⟨rfl, hL1⟩
      have HX1 := Lib.hid (HX0.out.below hL1 HX0.out.lt)
      have HG1 := Lib.hid (HG0.out.below hL1 (Nat.le_refl _))
      have HL1 := Lib.hid (HL0.out.trans (hL1.mono HL0.out.size)); clear hL1 HL0 HX0 HG0
      have x0 := HX1.out.cell 0
      have x1 := HX1.out.cell 1
      have x2 := HX1.out.cell 2
      have x3 := HX1.out.cell 3
      have x4 := HX1.out.cell 4
      have x5 := HX1.out.cell 5
      have x6 := HX1.out.cell 6
      have x7 := HX1.out.cell 7
      have x8 := HX1.out.cell 8
      have x9 := HX1.out.cell 9
      have x10 := HX1.out.cell 10
      simp only [List.getElem?_cons_zero, List.getElem?_cons_succ] at x0 x1 x2 x3 x4 x5 x6 x7 x8 x9 x10
      go_wp2_with fail
      refine (HGR.out _ HG1.out).mono ?_
      rintro e w2 ⟨bg, rfl, hbg, hL2⟩
      have HX2 := Lib.hid (HX1.out.below hL2 HX1.out.lt)
      have HG2 := Lib.hid (HG1.out.below hL2 (Nat.le_refl _))
      have HL2 := Lib.hid (HL1.out.trans (hL2.mono HL1.out.size)); clear hL2 HL1 HX1 HG1 x0 x1 x2 x3 x4 x5 x6 x7 x8 x9 x10
      cases bg
      · have hgs := hbg rfl
        have HGS := Lib.hid (show gs.length ≤ 1000 by omega)
        clear hbg hgs
        have x0 := HX2.out.cell 0
        have x1 := HX2.out.cell 1
        have x2 := HX2.out.cell 2
        have x3 := HX2.out.cell 3
        have x4 := HX2.out.cell 4
        have x5 := HX2.out.cell 5
        have x6 := HX2.out.cell 6
        have x7 := HX2.out.cell 7
        have x8 := HX2.out.cell 8
        have x9 := HX2.out.cell 9
        have x10 := HX2.out.cell 10
        simp only [List.getElem?_cons_zero, List.getElem?_cons_succ] at x0 x1 x2 x3 x4 x5 x6 x7 x8 x9 x10
        go_wp2_with fail
        refine (HPU.out _ HG2.out HGS.out).mono ?_
        rintro e w3 ⟨rfl, hL3⟩
        have HL3 := Lib.hid (HL2.out.trans (hL3.mono HL2.out.size)); clear hL3 HL2 HX2 HG2 x0 x1 x2 x3 x4 x5 x6 x7 x8 x9 x10
        rw [HPO.out (by first | exact rfl | trivial)]
        dsimp only
        simp only [strOf]
        go_wp2_with fail
        go_ret
        exact ⟨rfl, HL3.out⟩
      · go_wp2_with fail
        go_ret
        exact ⟨rfl, HL2.out⟩
    · have k0 : ((B : Int) == 0) = false := by simp; omega
      have k8 : ¬ (L.length : Int) < 6 := by omega
      have hm1 : IntKind.i64.wrap (8 * (L.length : Int)) = 8 * (L.length : Int) := IntWalk.i64_in _ (by omega)
      have hm2 : IntKind.i64.wrap (8 * (L.length : Int) - 15) = 8 * (L.length : Int) - 15 := IntWalk.i64_in _ (by omega)
      have HB0 := Lib.hid h0
      clear h0
      go_enter Try.func7, Try.ntmps7
      go_wp2_with fail
      refine (shown37_any _).mono ?_
      rintro e w1 ⟨rfl, hL1⟩
      have HX1 := Lib.hid (HX0.out.below hL1 HX0.out.lt)
      have HG1 := Lib.hid (HG0.out.below hL1 (Nat.le_refl _))
      have HL1 := Lib.hid (HL0.out.trans (hL1.mono HL0.out.size)); clear hL1 HL0 HX0 HG0
      have x0 := HX1.out.cell 0
      have x1 := HX1.out.cell 1
      have x2 := HX1.out.cell 2
      have x3 := HX1.out.cell 3
      have x4 := HX1.out.cell 4
      have x5 := HX1.out.cell 5
      have x6 := HX1.out.cell 6
      have x7 := HX1.out.cell 7
      have x8 := HX1.out.cell 8
      have x9 := HX1.out.cell 9
      have x10 := HX1.out.cell 10
      simp only [List.getElem?_cons_zero, List.getElem?_cons_succ] at x0 x1 x2 x3 x4 x5 x6 x7 x8 x9 x10
      go_wp2_with fail
      refine (HGR.out _ HG1.out).mono ?_
      rintro e w2 ⟨bg, rfl, hbg, hL2⟩
      have HX2 := Lib.hid (HX1.out.below hL2 HX1.out.lt)
      have HG2 := Lib.hid (HG1.out.below hL2 (Nat.le_refl _))
      have HL2 := Lib.hid (HL1.out.trans (hL2.mono HL1.out.size)); clear hL2 HL1 HX1 HG1 x0 x1 x2 x3 x4 x5 x6 x7 x8 x9 x10
      cases bg
      · have hgs := hbg rfl
        have HGS := Lib.hid (show gs.length ≤ 1000 by omega)
        clear hbg hgs
        have x0 := HX2.out.cell 0
        have x1 := HX2.out.cell 1
        have x2 := HX2.out.cell 2
        have x3 := HX2.out.cell 3
        have x4 := HX2.out.cell 4
        have x5 := HX2.out.cell 5
        have x6 := HX2.out.cell 6
        have x7 := HX2.out.cell 7
        have x8 := HX2.out.cell 8
        have x9 := HX2.out.cell 9
        have x10 := HX2.out.cell 10
        simp only [List.getElem?_cons_zero, List.getElem?_cons_succ] at x0 x1 x2 x3 x4 x5 x6 x7 x8 x9 x10
        go_wp2_with fail
        refine (HPU.out _ HG2.out HGS.out).mono ?_
        rintro e w3 ⟨rfl, hL3⟩
        have HL3 := Lib.hid (HL2.out.trans (hL3.mono HL2.out.size)); clear hL3 HL2 HX2 HG2 x0 x1 x2 x3 x4 x5 x6 x7 x8 x9 x10
        rw [HPO.out (by first | exact rfl | trivial)]
        dsimp only
        simp only [strOf]
        go_wp2_with fail
        refine (pick_any at_ (8 * (L.length : Int) - 15) _ (by omega) (by omega) ha1 ha2).mono ?_
        obtain ⟨q, hq⟩ : ∃ q : Nat, at_ % (8 * (L.length : Int) - 15) = q := ⟨(at_ % (8 * (L.length : Int) - 15)).toNat, (Int.toNat_of_nonneg (Int.emod_nonneg _ (by omega))).symm⟩
        have hq2 : q + 16 ≤ 8 * L.length := by
          have := Int.emod_lt_of_pos at_ (show (0 : Int) < 8 * (L.length : Int) - 15 by omega)
          omega
        rw [hq]
        rintro e _ ⟨rfl, rfl⟩
        have HGF := Lib.hid (HGF.out q (by first | exact rfl | trivial) HB0.out hq2)
        have HQ := Lib.hid hq
        clear hq hm1 hm2
        go_wp2_with fail
        go_loopg [10, 11] 16 (fun m s i wr => ∃ k : Nat, k ≤ 16 ∧ m = 16 - k ∧ i = .int .i64 k ∧ s = .string ⟨(flips L q B k).toArray⟩ ∧ Below w.heap.size w wr)
        case atStart => exact ⟨0, by omega, by omega, rfl, rfl, HL3.out⟩
        case round =>
          obtain ⟨k, hk, hm, rfl, rfl, hL⟩ := hrel
          have HL := Lib.hid hL; clear hL HL3
          by_cases hlt : k < 16
          · obtain ⟨s, hs⟩ : ∃ s : ByteArray, s = ⟨(flips L q B k).toArray⟩ := ⟨_, rfl⟩
            have hsl : s.data.toList = flips L q B k := by rw [hs]
            have hsz : s.size = L.length := by rw [hs]; show (flips L q B k).toArray.size = _; rw [List.size_toArray, flips_len]
            rw [← hs]
            have HS := Lib.hid hs; have HSL := Lib.hid hsl
            clear hs hsl
            have e2 : (2 : Int) ^ k = ((2 ^ k : Nat) : Int) := by simp
            have e : ((B : Int) / 2 ^ k).tmod 2 = ((B / 2 ^ k % 2 : Nat) : Int) := by
              rw [e2, ← Int.natCast_ediv, Int.tmod_eq_emod_of_nonneg (Int.natCast_nonneg (B / 2 ^ k))]
              exact (Int.natCast_emod (B / 2 ^ k) 2).symm
            have hqk : (q : Int) + k = ((q + k : Nat) : Int) := by omega
            by_cases hbit : B / 2 ^ k % 2 = 1
            · have hbt : (((B : Int) / 2 ^ k).tmod 2 == 1) = true := by rw [e, hbit]; rfl
              have hfl := fun w => flip_any s ((q : Int) + k) w (by omega) (by omega) (by omega)
              rw [HSL.out, flipOf_at (flips L q B k) ((q : Int) + k) (q + k) hqk (by rw [flips_len]; omega)] at hfl
              have hst : flipAt (flips L q B k) (q + k) = flips L q B (k + 1) := by
                show _ = if B / 2 ^ k % 2 = 1 then _ else _
                rw [if_pos hbit]
              rw [hst] at hfl
              dsimp only [strOf] at hfl
              have HFL := Lib.hid hfl
              clear hfl hst hbit e e2 hqk
              go_wp2_with fail
              refine (HFL.out _).mono ?_
              rintro e w5 ⟨rfl, hL5⟩
              have HL5 := Lib.hid (HL.out.trans (hL5.mono HL.out.size)); clear hL5
              go_wp2_with fail
              go_roundg (16 - (k + 1))
              case measure => omega
              case rel => exact ⟨k + 1, by omega, rfl, by go_num, rfl, HL5.out⟩
            · have hbt : (((B : Int) / 2 ^ k).tmod 2 == 1) = false := by
                rw [e, beq_eq_false_iff_ne]
                have h2 : ∀ z : Nat, (z : Int) = 1 → z = 1 := by omega
                exact fun h => hbit (h2 _ h)
              have hst : s = ⟨(flips L q B (k + 1)).toArray⟩ := by
                rw [HS.out]
                show _ = (⟨(if B / 2 ^ k % 2 = 1 then _ else _ : List UInt8).toArray⟩ : ByteArray)
                rw [if_neg hbit]
              have HST := Lib.hid hst
              clear hst hbit e e2 hqk
              go_wp2_with fail
              go_roundg (16 - (k + 1))
              case measure => omega
              case rel => exact ⟨k + 1, by omega, rfl, by go_num, by rw [HST.out], HL.out⟩
          · obtain rfl : k = 16 := by omega
            go_wp2_with fail
            refine (HGF.out _).mono ?_
            rintro e w5 ⟨ea, ec, rfl, hL5⟩
            have HL5 := Lib.hid (HL.out.trans (hL5.mono HL.out.size)); clear hL5
            go_wp2_with fail
            go_ret
            exact ⟨rfl, HL5.out.alloc HL5.out.size _⟩
      · go_wp2_with fail
        go_ret
        exact ⟨rfl, HL2.out⟩
theorem bounds_u16 {n : Int} (h : (Lit.int .u16 n).wf = true) : 0 ≤ n ∧ n ≤ 65535 := by
  simp [Lit.wf, IntKind.min, IntKind.max, IntKind.signed, IntKind.bits] at h
  omega
end Go.Proofs.Ytkpgenmlpkfokaa
