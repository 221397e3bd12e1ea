/- What is proved here: a part of the proof of TopLink (texts Jl Jo). No condition. -/
import Derived.Deep.CutBlock
import Derived.BigQuiet
import Derived.ProofKit
import Derived.OpenShut
import Derived.LaidMore
import Derived.LaidLaws
import Derived.Stop.Joined
import Derived.Test.YtgopighmifpefaaGreatDoorPart01
import Derived.Test.YtgopighmifpefaaGreatDoorPart05
import Derived.Test.YtgopighmifpefaaGreatDoorPart27
import Derived.Test.YtgopighmifpefaaGreatDoorPart32
set_option linter.unusedVariables false
set_option linter.unusedSimpArgs false
namespace Go.Proofs.YtgopighmifpefaaGreatDoor
section
open Go.RowKit
set_option maxHeartbeats 4000000 in
set_option maxRecDepth 100000 in
theorem TopLink_big1 (a b : Int) (qa sa : Option Addr) (qn qc sn sc : Nat) (w : World) (hq : 600 < qn) (hq2 : qn ≤ 9223372036854775807) :
    Calls Tryz.prog 3 #[.int .i64 a, .int .i64 b, .agg #[.slice qa qn qc, .slice sa sn sc]] w fun e w' => e = .returned (.bool true) ∧ Below w.heap.size w w' := by
  have k1 : (600 : Int) < (qn : Int) := by omega
  go_enter Tryz.func3, Tryz.ntmps3
  go_wp2_with fail
  go_ret
  exact ⟨rfl, (Below.refl _ _).alloc (Nat.le_refl _) _⟩
set_option maxHeartbeats 4000000 in
set_option maxRecDepth 100000 in
theorem TopLink_big2 (a b : Int) (qa sa : Option Addr) (qn qc sn sc : Nat) (w : World) (hq : qn ≤ 600) (hs : 100 < sn) (hs2 : sn ≤ 9223372036854775807) :
    Calls Tryz.prog 3 #[.int .i64 a, .int .i64 b, .agg #[.slice qa qn qc, .slice sa sn sc]] w fun e w' => e = .returned (.bool true) ∧ Below w.heap.size w w' := by
  have k1 : ¬ (600 : Int) < (qn : Int) := by omega
  have k2 : (100 : Int) < (sn : Int) := by omega
  go_enter Tryz.func3, Tryz.ntmps3
  go_wp2_with fail
  go_ret
  exact ⟨rfl, (Below.refl _ _).alloc (Nat.le_refl _) _⟩
/-- What holds ahead of a round of the last phase. -/
def Ph (k n0 r : Nat) (l : Ls) : Prop := ∃ pks b N bo, LI k n0 l pks [] [] b N bo ∧ pks.length ≤ 600 ∧ Clean l.ps ∧ l.f.st.wait = false ∧ RestL r l
set_option maxHeartbeats 32000000 in
set_option maxRecDepth 100000 in
theorem TopLink_in (a b : Int) (qa sa : Option Addr) (qn qc sn sc : Nat) (Q S : Nat → Int) (w : World) (ha : I64 a) (hb : I64 b) (hG : Gl w) (hq : qn ≤ 600) (hs : sn ≤ 100) (hsc : sn ≤ sc)
    (hqr : RowAt w qa qn (fun i => .int .i64 (Q i))) (hQ : ∀ i, i < qn → I64 (Q i)) (hsr : RowAt w sa sn (fun i => .int .i64 (S i))) (hS : ∀ i, i < sn → I64 (S i)) :
    Calls Tryz.prog 3 #[.int .i64 a, .int .i64 b, .agg #[.slice qa qn qc, .slice sa sn sc]] w fun e w' => e = .returned (.bool true) ∧ Below w.heap.size w w' := by
  obtain ⟨k, hk⟩ : ∃ k : Nat, (k : Int) = 1 + a % 127 := ⟨(1 + a % 127).toNat, by omega⟩
  obtain ⟨n0, hn0⟩ : ∃ n : Nat, (n : Int) = b % 256 := ⟨(b % 256).toNat, by omega⟩
  have HI0 := Lib.hid (link0_inv k n0 (by omega) (by omega))
  have HBG := Lib.hid (fun W => begin15_any a b k n0 W ha hb hk hn0)
  have k1 : ¬ (600 : Int) < (qn : Int) := by omega
  have k2 : ¬ (100 : Int) < (sn : Int) := by omega
  have HQQ := Lib.hid hQ; have HSS := Lib.hid hS
  have hL0 : Below w.heap.size w (w.alloc (Obj.cells #[.slice qa qn qc, .slice sa sn sc] 24)) := (Below.refl _ _).alloc (Nat.le_refl _) _
  have HO0 := Lib.hid (Blk.new w [.slice qa qn qc, .slice sa sn sc] 24)
  have HL0 := Lib.hid hL0
  have HG0 := Lib.hid (hG.below hL0 (Nat.le_refl _))
  have HQR0 := Lib.hid (hqr.below hL0 (Nat.le_refl _)); have HSR0 := Lib.hid (hsr.below hL0 (Nat.le_refl _))
  clear ha hb hG hqr hQ hsr hS hk hn0 hL0
  go_enter Tryz.func3, Tryz.ntmps3
  go_upto_region 1 with fail
  obtain ⟨o, ho⟩ : ∃ o, o = w.heap.size := ⟨_, rfl⟩
  rw [← ho] at HO0 ⊢
  refine gen_world (fun wB => Below w.heap.size w wB ∧ Blk wB o [.slice qa qn qc, .slice sa sn sc] 24 ∧ Gl wB ∧ RowAt wB qa qn (fun i => .int .i64 (Q i)) ∧ RowAt wB sa sn (fun i => .int .i64 (S i))) ⟨HL0.out, HO0.out, HG0.out, HQR0.out, HSR0.out⟩ ?_
  clear HL0 HO0 HG0 HQR0 HSR0 ho
  rintro wB ⟨hL, hO, hG, hQR, hSR⟩
  have HL := Lib.hid hL; have HO := Lib.hid hO; have HG := Lib.hid hG; have HQR := Lib.hid hQR; have HSR := Lib.hid hSR
  clear hL hO hG hQR hSR
  have x0 := HO.out.cell 0
  have x1 := HO.out.cell 1
  simp only [List.getElem?_cons_zero, List.getElem?_cons_succ] at x0 x1
  go_wp2_with fail
  refine (HBG.out _).mono ?_
  rintro e w1 ⟨L, rfl, hLk⟩
  have HK0 := Lib.hid hLk
  have HGO := Lib.hid (show GoodL k n0 0 (link0 k n0) from ⟨[], [], [], 0, 0, none, HI0.out, Nat.zero_le _, Nat.zero_le _, Nat.zero_le _, rfl⟩)
  clear hLk HBG HI0 x0 x1
  go_upto_block 0 with fail
  go_cut [] (fun W2 => ∃ l, LkIn wB W2 L l ∧ GoodL k n0 600 l)
  case first =>
    go_wp2_with fail
    go_loopw [9] (fun iv wr => ∃ i : Nat, i ≤ qn ∧ iv = .int .i64 i ∧ ∃ l, LkIn wB wr L l ∧ GoodL k n0 i l) (fun iv _ => qn - (intOf iv).toNat)
    case atStart => exact ⟨0, Nat.zero_le _, rfl, _, HK0.out, HGO.out⟩
    case round =>
      obtain ⟨i, hi, rfl, l, hP, hGd⟩ := hrel
      clear HK0 HGO
      have hb : Below wB.heap.size wB wr := by obtain ⟨_, _, h⟩ := hP; exact h.fop.toBelow
      have HO2 := Lib.hid (HO.out.below hb HO.out.lt)
      have x0 := HO2.out.cell 0
      have x1 := HO2.out.cell 1
      simp only [List.getElem?_cons_zero, List.getElem?_cons_succ] at x0 x1
      have HW := Lib.hid (HL.out.trans (hb.mono HL.out.size))
      have HB := Lib.hid hb
      have HP := Lib.hid hP; have HGD := Lib.hid hGd
      clear hb hP hGd
      by_cases hlt : i < qn
      · have hlt2 : (i : Int) < (qn : Int) := by omega
        obtain ⟨q, off, hqa, hql, hcell⟩ := HQR.out.below HB.out (Nat.le_refl _) i hlt
        subst hqa
        have HA := Lib.hid (fun (W : World) (hW : LkIn wB W L l) => act15_any (c := i) HGD.out (by omega) HG.out hs hsc HSR.out HSS.out (Q i) (HQQ.out i hlt) hW)
        go_upto_region 9 with fail
        go_cut [48] (fun p48 W2 => ∃ r l', p48 = .bool (!r) ∧ LkIn wB W2 L l' ∧ Aft k n0 (i + 1) r l')
        case first =>
          have HPD := Lib.hid (show LkIn wB wr.drew L l by obtain ⟨cc, h1, h2⟩ := HP.out; exact ⟨cc, h1, h2.drew⟩)
          go_region_with (first | (go_at_call 5; refine (HA.out _ HPD.out).mono ?_; rintro e W2 ⟨r, l', rfl, hL2, hA2⟩) | fail)
          all_goals
            clear HA HPD hcell x0 x1
            go_wp2_with fail
            go_meet
            exact ⟨r, l', rfl, hL2, hA2⟩
        case rest =>
          obtain ⟨r, l', rfl, ⟨cc, hcL, hP2⟩, hbad, hA⟩ := hcut
          have HA := Lib.hid hA
          have c10 := hP2.blk.cell 10; have c9 := hP2.blk.cell 9
          simp only [lkCells, List.cons_append, List.nil_append, List.getElem?_cons_zero, List.getElem?_cons_succ, hbad] at c10 c9
          rw [hcL] at c10 c9
          have HB2 := Lib.hid (HL.out.trans (hP2.fop.toBelow.mono HL.out.size))
          have HP2 := Lib.hid (show LkIn wB wc L l' from ⟨cc, hcL, hP2⟩)
          clear hP2 hcL hA hcell x0 x1 HO2 HP HGD HB HW
          cases r
          · go_wp2_with fail
            go_ret
            exact ⟨rfl, HB2.out⟩
          · cases hod : l'.odd
            · have HG2 : Hid (GoodL k n0 (i + 1) l') := Lib.hid (by
                rcases HA.out with h | h | h
                · cases h
                · rw [hod] at h; cases h
                · exact h)
              rw [hod] at c9
              clear hod
              go_wp2_with fail
              go_roundw
              case rel => exact ⟨i + 1, by omega, by go_num, l', HP2.out, HG2.out⟩
              case measure => simp [intOf]; omega
            · rw [hod] at c9
              clear hod
              go_wp2_with fail
              go_ret
              exact ⟨rfl, HB2.out⟩
      · obtain rfl : i = qn := by omega
        go_wp2_with fail
        go_meet
        exact ⟨l, HP.out, HGD.out.more hq⟩
  case rest =>
    obtain ⟨l, hP, hGd⟩ := hcut
    clear HK0 HGO HQR HSR HQQ HSS
    obtain ⟨pks, ups, dws, b0, N, bo, hI, hp, -, -, hwt⟩ := hGd
    obtain ⟨cc, hcL, hP⟩ := hP
    obtain ⟨dc, hdL, hdP, hP2⟩ := hP.drop
    have c6 := hP.blk.cell 6; have c7 := hP.blk.cell 7; have c8 := hP.blk.cell 8
    have f6 := hP.blk.free 6; have f7 := hP.blk.free 7; have f8 := hP.blk.free 8
    simp only [lkCells, List.cons_append, List.nil_append, List.getElem?_cons_zero, List.getElem?_cons_succ] at c6 c7 c8
    rw [hcL] at c6 c7 c8 f6 f7 f8 hP2 hdL
    have HI := Lib.hid hI; have HP2 := Lib.hid hP2; have HDL := Lib.hid hdL; have HWT := Lib.hid hwt
    clear hI hP hP2 hdL hdP hcL hwt
    go_upto_region 14 with fail
    refine gen_world (fun W => ∃ dc : Lc, dc.L = L ∧ LkM wB W dc (lkCells dc { l with units := [], frames := [], words := [] }) { l with units := [], frames := [], words := [] }) ⟨dc, HDL.out, HP2.out⟩ ?_
    clear HP2 HDL c6 c7 c8 f6 f7 f8
    rintro W2 ⟨dc, hdL, hP⟩
    have c2 := hP.blk.cell 2
    simp only [lkCells, List.cons_append, List.nil_append, List.getElem?_cons_zero, List.getElem?_cons_succ, pt] at c2
    rw [hdL] at c2
    have HR := Lib.hid (reset_any hP); have HDL := Lib.hid hdL
    clear hP hdL
    go_wp2_with fail
    refine HR.out.mono ?_
    rintro e W3 ⟨rfl, hP3⟩
    rw [HDL.out] at hP3
    obtain ⟨l1, hl1⟩ : ∃ l1 : Ls, l1 = { l with units := [], frames := [], words := [], ps := searchS l.ps } := ⟨_, rfl⟩
    have hI1 : LI k n0 l1 pks [] [] b0 N bo := by rw [hl1]; exact HI.out.drop (searchS l.ps) (clean_search l.ps).fine HI.out.pd
    have hcl : Clean l1.ps := by rw [hl1]; exact clean_search l.ps
    have hw1 : l1.f.st.wait = false := by rw [hl1]; exact HWT.out
    have hP4 : LkIn wB W3 L l1 := by rw [hl1]; exact hP3
    have HP := Lib.hid hP4; have HI1 := Lib.hid hI1; have HCL := Lib.hid hcl; have HW1 := Lib.hid hw1
    clear hP3 hP4 hI1 hcl hw1 hl1 HI HR HDL c2 HWT
    go_upto_block 2 with fail
    go_cut [] (fun W2 => ∃ l, LkIn wB W2 L l ∧ l.bad = false ∧ l.odd = false ∧ l.came = l.sent.length)
    case first =>
      go_wp2_with fail
      go_loopw [10] (fun iv wr => ∃ r : Nat, iv = .int .i64 r ∧ ∃ l, LkIn wB wr L l ∧ Ph k n0 r l) (fun iv _ => 300 - (intOf iv).toNat)
      case atStart => exact ⟨0, rfl, l1, HP.out, pks, b0, N, bo, HI1.out, hp, HCL.out, HW1.out, .inl rfl⟩
      case round =>
        clear HP HI1 HCL HW1 l l1 hp pks b0 N bo
        obtain ⟨r, rfl, l, ⟨cc, hcL, hP⟩, pks, b0, N, bo, hI, hp, hcl, hwt, hm⟩ := hrel
        have hlen := hI.len; have hwl := hI.inv.wl; have hsl := hI.inv.sl; have hk := hI.inv.hk
        have hwin : l.s.window ≠ 0 := hI.inv.fine.win
        have hr257 : r ≤ 257 := by rcases hm with h | h <;> omega
        have hrl : (r : Int) < 300 := by omega
        simp only [prOf] at hwl hsl
        have c0 := hP.blk.cell 0; have c10 := hP.blk.cell 10
        simp only [lkCells, List.cons_append, List.nil_append, List.getElem?_cons_zero, List.getElem?_cons_succ, pt, hI.bad] at c0 c10
        rw [hcL] at c0 c10
        have HP := Lib.hid hP; have HcL := Lib.hid hcL
        have HSE := Lib.hid (fun n => sentC hwin (HP.out.below (drewN_below (Below.refl _ _) n)))
        have HWA := Lib.hid (fun n => waitC hwin (HP.out.below (drewN_below (Below.refl _ _) n)))
        have hwr : IntKind.i64.wrap ((l.s.sent.length : Int) + (l.s.waiting.length : Int)) = (l.s.sent.length : Int) + (l.s.waiting.length : Int) := IntWalk.i64_in _ (by omega)
        have HI := Lib.hid hI; have HM := Lib.hid hm; have HC := Lib.hid hcl; have HWT := Lib.hid hwt
        have HLEN := Lib.hid hlen; have HWL := Lib.hid hwl; have HSL := Lib.hid hsl; have HKK := Lib.hid hk
        clear hP hcL hI hm hcl hwt hlen hk hwin hwl hsl
        by_cases hz : l.s.sent.length + l.s.waiting.length = 0
        · have hk0 : ¬ (0 : Int) < (l.s.sent.length : Int) + (l.s.waiting.length : Int) := by omega
          have hk1 : ¬ 0 < l.s.sent.length + l.s.waiting.length := by omega
          go_upto_region 16 with fail
          go_quiet ((first | (go_at_call 7; exact quiet_lft (HSE.out _)) | (go_at_call 8; exact quiet_lft (HWA.out _))))
          refine post_any (fun W => LkIn wB W L l) ⟨cc, HcL.out, HP.out.below (drewN_below (Below.refl _ _) _)⟩ ?_
          clear HP HSE HWA c0 c10
          rintro W5 hP5
          have HP5 := Lib.hid hP5
          clear hP5
          go_wp2_with fail
          go_meet
          exact ⟨l, HP5.out, HI.out.bad, HI.out.odd, HI.out.all (by omega) (by omega)⟩
        · have hk0 : (0 : Int) < (l.s.sent.length : Int) + (l.s.waiting.length : Int) := by omega
          have hk1 : 0 < l.s.sent.length + l.s.waiting.length := by omega
          go_upto_region 16 with fail
          go_quiet ((first | (go_at_call 7; exact quiet_lft (HSE.out _)) | (go_at_call 8; exact quiet_lft (HWA.out _))))
          refine post_any (fun W => LkM wB W cc (lkCells cc l) l) (HP.out.below (drewN_below (Below.refl _ _) _)) ?_
          clear HP HSE HWA c0 c10 hk0 hwr hrl
          rintro W5 hP5
          have HP := Lib.hid hP5
          clear hP5
          have HZ := Lib.hid hk1
          clear hk1 hz
          obtain ⟨nw, hnw⟩ : ∃ nw, nw = nwOf n0 N l := ⟨_, rfl⟩
          have hW := lk_word (gg := cc.gg) HI.out
          have hW2 : ∀ (W1 : World), Blk W1 cc.gg l.f.cells 80 → Calls Tryz.prog 9 #[.pointer (some ⟨cc.gg, 0, none⟩)] W1 fun e w' => e = .returned (.int .u32 (nw : Nat)) ∧ Below W1.heap.size W1 w' := by rw [hnw]; exact hW
          have HW := Lib.hid hW2; have HNW := Lib.hid hnw
          have hwl9 : l.words.length ≤ 1000000 := by rw [HI.out.words_nil]; simp
          clear hW hW2 hnw
          go_upto_region 18 with fail
          go_cut [] (fun W2 => LkIn wB W2 L { l with words := l.words ++ [nw] })
          case first =>
            rw [← HcL.out]
            obtain ⟨c, hc⟩ : ∃ c, c = cc := ⟨_, rfl⟩
            subst hc
            obtain ⟨i0, hi0, hz0, hz1, hz2⟩ := info_parts info_u32
            have x0 : ∀ W', Blk W' c.L (lkCells c l) 39 → (W'.cell? ⟨c.L, 8, none⟩ = some c.wv ∧ W'.cell? ⟨c.L, 1, none⟩ = some (.pointer (some ⟨c.gg, 0, none⟩))) := fun W' k => ⟨k.cell 8, k.cell 1⟩
            refine region_end (fun W' => Blk W' c.L (lkCells c l) 39) 14 (by kernel_rfl) HP.out.blk.drew (fun hInv hHeld => ?_)
            have hPd := HP.out.drew
            generalize W5.drew = W0 at hPd hHeld ⊢
            clear HP
            have HP := Lib.hid hPd
            clear hPd
            refine WpEnd.take (i := 0) (some 108) (v := ?_) rfl rfl (by kernel_rfl) (by kernel_rfl) (by kernel_rfl) (fun _ _ _ h => h) (by kernel_rfl) hInv (by assumption) (by rfl) ?_ (fun hInv2 => ?_)
            rotate_left
            · (intro w hSw; (try dsimp only at hSw); obtain ⟨s8, s1⟩ := x0 _ hSw; go_simp; (try with_reducible rfl))
            clear hInv; have hInv := hInv2; clear hInv2
            simp only [Act.put, List.setIfInBounds_toArray, List.set_cons_zero, List.set_cons_succ]
            refine WpEnd.take (i := 1) (some 109) (v := ?_) rfl rfl (by kernel_rfl) (by kernel_rfl) (by kernel_rfl) (fun _ _ _ h => h) (by kernel_rfl) hInv (by assumption) (by rfl) ?_ (fun hInv2 => ?_)
            rotate_left
            · (intro w hSw; (try dsimp only at hSw); obtain ⟨s8, s1⟩ := x0 _ hSw; go_simp; (try with_reducible rfl))
            clear hInv; have hInv := hInv2; clear hInv2
            simp only [Act.put, List.setIfInBounds_toArray, List.set_cons_zero, List.set_cons_succ]
            refine WpEnd.take (i := 2) (some 110) (v := ?_) rfl rfl (by kernel_rfl) (by kernel_rfl) (by kernel_rfl) (fun _ _ _ h => h) (by kernel_rfl) hInv (by assumption) (by rfl) ?_ (fun hInv2 => ?_)
            rotate_left
            · (intro w hSw; (try dsimp only at hSw); obtain ⟨s8, s1⟩ := x0 _ hSw; go_simp; (try with_reducible rfl))
            clear hInv; have hInv := hInv2; clear hInv2
            simp only [Act.put, List.setIfInBounds_toArray, List.set_cons_zero, List.set_cons_succ]
            refine WpEnd.take (i := 3) (some 111) (v := ?_) rfl rfl (by kernel_rfl) (by kernel_rfl) (by kernel_rfl) (fun _ _ _ h => h) (by kernel_rfl) hInv (by assumption) (by rfl) ?_ (fun hInv2 => ?_)
            rotate_left
            · (intro w hSw; (try dsimp only at hSw); obtain ⟨s8, s1⟩ := x0 _ hSw; go_simp; (try with_reducible rfl))
            clear hInv; have hInv := hInv2; clear hInv2
            simp only [Act.put, List.setIfInBounds_toArray, List.set_cons_zero, List.set_cons_succ]
            refine WpEnd.take (i := 4) (some 112) (v := ?_) rfl rfl (by kernel_rfl) (by kernel_rfl) (by kernel_rfl) (fun _ _ _ h => h) (by kernel_rfl) hInv (by assumption) (by rfl) ?_ (fun hInv2 => ?_)
            rotate_left
            · (intro w hSw; (try dsimp only at hSw); obtain ⟨s8, s1⟩ := x0 _ hSw; go_simp; (try with_reducible rfl))
            clear hInv; have hInv := hInv2; clear hInv2
            simp only [Act.put, List.setIfInBounds_toArray, List.set_cons_zero, List.set_cons_succ]
            refine WpEnd.take (i := 5) (some 113) (v := ?_) rfl rfl (by kernel_rfl) (by kernel_rfl) (by kernel_rfl) (fun _ _ _ h => h) (by kernel_rfl) hInv (by assumption) (by rfl) ?_ (fun hInv2 => ?_)
            rotate_left
            · (intro w hSw; (try dsimp only at hSw); obtain ⟨s8, s1⟩ := x0 _ hSw; go_simp; (try with_reducible rfl))
            clear hInv; have hInv := hInv2; clear hInv2
            simp only [Act.put, List.setIfInBounds_toArray, List.set_cons_zero, List.set_cons_succ]
            refine WpEnd.take (i := 6) (some 114) (v := ?_) rfl rfl (by kernel_rfl) (by kernel_rfl) (by kernel_rfl) (fun _ _ _ h => h) (by kernel_rfl) hInv (by assumption) (by rfl) ?_ (fun hInv2 => ?_)
            rotate_left
            · (intro w hSw; (try dsimp only at hSw); obtain ⟨s8, s1⟩ := x0 _ hSw; go_simp; (try with_reducible rfl))
            clear hInv; have hInv := hInv2; clear hInv2
            simp only [Act.put, List.setIfInBounds_toArray, List.set_cons_zero, List.set_cons_succ]
            refine WpEnd.take (i := 7) (some 115) (v := ?_) rfl rfl (by kernel_rfl) (by kernel_rfl) (by kernel_rfl) (fun _ _ _ h => h) (by kernel_rfl) hInv (by assumption) (by rfl) ?_ (fun hInv2 => ?_)
            rotate_left
            · (intro w hSw; (try dsimp only at hSw); obtain ⟨s8, s1⟩ := x0 _ hSw; go_simp; (try with_reducible rfl))
            clear hInv; have hInv := hInv2; clear hInv2
            simp only [Act.put, List.setIfInBounds_toArray, List.set_cons_zero, List.set_cons_succ]
            refine WpEnd.take (i := 8) (some 116) (v := ?_) rfl rfl (by kernel_rfl) (by kernel_rfl) (by kernel_rfl) (fun _ _ _ h => h) (by kernel_rfl) hInv (by assumption) (by rfl) ?_ (fun hInv2 => ?_)
            rotate_left
            · (intro w hSw; (try dsimp only at hSw); obtain ⟨s8, s1⟩ := x0 _ hSw; go_simp; (try with_reducible rfl))
            clear hInv; have hInv := hInv2; clear hInv2
            simp only [Act.put, List.setIfInBounds_toArray, List.set_cons_zero, List.set_cons_succ]
            refine WpEnd.ready (rs := [9]) (by kernel_rfl) (by simp) ?_
            refine EachEnd.cons (some 117) rfl rfl (by decide) (by kernel_rfl) hInv (fun K hKK hKB => ?_) EachEnd.nil
            refine step_call rfl 9 #[.tmp 116] _ rfl #[.pointer (some ⟨c.gg, 0, none⟩)] (by kernel_rfl) (fun x V => x = .int .u32 (nw : Nat) ∧ Below W0.heap.size W0 V) ((HW.out W0 HP.out.farm).mono fun e V h => ⟨_, h.1, rfl, h.2⟩) ?_
            rintro x Wc ⟨rfl, hL0⟩
            refine hKK.out _ _ (HP.out.blk.below hL0 HP.out.blk.lt) (fun hInv2 hHeld2 => ?_)
            clear hKK hKB K hInv hHeld; have hInv := hInv2; have hHeld := hHeld2; clear hInv2 hHeld2
            simp only [Act.put, List.setIfInBounds_toArray, List.set_cons_zero, List.set_cons_succ]
            refine WpEnd.ready (rs := [10]) (by kernel_rfl) (by simp) ?_
            refine EachEnd.cons (some 118) rfl rfl (by decide) (by kernel_rfl) hInv (fun K hKK hKB => ?_) EachEnd.nil
            refine step_build_1 35 41 (u32Row [nw]) rfl _ rfl _ rfl (build_w1 _ nw) ?_
            have hL1 := hL0.alloc hL0.size (Obj.cells (u32Row [nw]).toArray 41)
            have hy1 := Blk.new Wc (u32Row [nw]) 41
            obtain ⟨nb, hnb⟩ : ∃ nb, nb = Wc.heap.size := ⟨_, rfl⟩
            rw [← hnb] at hy1 ⊢
            obtain ⟨Wb, hWb⟩ : ∃ Wb, Wb = Wc.alloc (Obj.cells (u32Row [nw]).toArray 41) := ⟨_, rfl⟩
            rw [← hWb] at hL1 hy1 ⊢
            refine hKK.out _ _ (HP.out.blk.below hL1 HP.out.blk.lt) (fun hInv2 hHeld2 => ?_)
            clear hWb hnb
            clear hKK hKB K hInv hHeld; have hInv := hInv2; have hHeld := hHeld2; clear hInv2 hHeld2
            simp only [Act.put, List.setIfInBounds_toArray, List.set_cons_zero, List.set_cons_succ]
            refine WpEnd.ready (rs := [11]) (by kernel_rfl) (by simp) ?_
            refine EachEnd.cons (some 119) rfl rfl (by decide) (by kernel_rfl) hInv (fun K hKK hKB => ?_) EachEnd.nil
            refine step_append_q 35 41 1 4 i0 (.int .u32 0) rfl _ _ rfl Tryz.underlying35 hi0 hz0 rfl hz1 hz2 0 c.wv l.words.length _ rfl (q_below HP.out.words hL1 (Nat.le_refl _)) nb 0 1 1 (u32Row [nw]) rfl rfl (by intro z hz; simp [u32Row] at hz; subst hz; rfl) (fun j z hj => by rw [Nat.zero_add]; exact (hy1.cell j).trans hj) (by omega) (by unfold maxLen; omega) (Nat.zero_le _) ?_
            intro v8 Wd hq hk hm
            obtain ⟨hPn, hTn⟩ := HP.out.pushW (q := l.words ++ [nw]) hL1 hk hm (by simp only [List.length_append, List.length_singleton, u32Row_snoc]; exact hq)
            refine hKK.out _ _ hPn.blk (fun hInv2 hHeld2 => ?_)
            clear HP hL0 hL1 hy1 hk hm hq hTn
            have HP := Lib.hid hPn
            clear hPn
            clear hKK hKB K hInv hHeld; have hInv := hInv2; have hHeld := hHeld2; clear hInv2 hHeld2
            simp only [Act.put, List.setIfInBounds_toArray, List.set_cons_zero, List.set_cons_succ]
            refine WpEnd.take (i := 12) (some 120) (v := ?_) rfl rfl (by kernel_rfl) (by kernel_rfl) (by kernel_rfl) (fun _ _ _ h => h) (by kernel_rfl) hInv (by assumption) (by rfl) ?_ (fun hInv2 => ?_)
            rotate_left
            · (intro w hSw; (try dsimp only at hSw); obtain ⟨s8, s1⟩ := x0 _ hSw; go_simp; (try with_reducible rfl))
            clear hInv; have hInv := hInv2; clear hInv2
            simp only [Act.put, List.setIfInBounds_toArray, List.set_cons_zero, List.set_cons_succ]
            refine WpEnd.take (i := 13) (some 121) (v := ?_) rfl rfl (by kernel_rfl) (by kernel_rfl) (by kernel_rfl) (fun _ _ _ h => h) (by kernel_rfl) hInv (by assumption) (by rfl) ?_ (fun hInv2 => ?_)
            rotate_left
            · (intro w hSw; (try dsimp only at hSw); obtain ⟨s8, s1⟩ := x0 _ hSw; go_simp; (try with_reducible rfl))
            clear hInv; have hInv := hInv2; clear hInv2
            simp only [Act.put, List.setIfInBounds_toArray, List.set_cons_zero, List.set_cons_succ]
            refine WpEnd.ready (rs := [14]) (by kernel_rfl) (by simp) ?_
            refine EachEnd.last rfl (fun K hKK => ?_)
            obtain ⟨va, vc, hve⟩ := qform HP.out.words
            simp only [List.length_append, List.length_singleton] at hve
            subst hve
            have c8 := HP.out.blk.cell 8; have f8 := HP.out.blk.free 8
            simp only [lkCells, List.cons_append, List.nil_append, List.getElem?_cons_zero, List.getElem?_cons_succ] at c8
            have hPp := HP.out.poke 8 (.slice va (l.words.length + 1) vc)
            go_simp
            refine hKK.out _ _ ?_
            clear hKK K
            refine WpEnd.done (by kernel_rfl) ?_ _
            refine post_any (fun W' => ∃ c' : Lc, c'.L = c.L ∧ c'.P = c.P ∧ LkM wB W' c' (lkCells c' { l with words := l.words ++ [nw] }) { l with words := l.words ++ [nw] }) ⟨{ c with wv := .slice va (l.words.length + 1) vc }, rfl, rfl, hPp⟩ ?_
            clear hPp HP c8 f8 x0 hi0 hz0 hz1 hz2 i0 HW hInv hHeld
            rintro W3 ⟨c', hcL, hcP, hP⟩
            have HP := Lib.hid hP; have HCL := Lib.hid hcL; have HCP := Lib.hid hcP
            clear hP hcL hcP
            rw [HcL.out]
            go_wp2_with fail
            go_meet
            exact ⟨c', HCL.out.trans HcL.out, HP.out⟩
          case rest =>
            clear HP HW
            obtain ⟨c1, h1, hP1⟩ := hcut
            rw [HNW.out] at hP1
            have hTH := told_hear HI.out hP1
            rw [h1] at hTH
            have HTH := Lib.hid hTH
            clear hTH hP1 h1 c1 HNW hwl9
            go_wp2_with fail
            refine HTH.out.mono ?_
            rintro e W6 ⟨rfl, hP6⟩
            obtain ⟨d1, d2, d3, d4⟩ := HI.out.told
            obtain ⟨lT, hlT⟩ : ∃ lT, lT = toldS n0 b0 N l := ⟨_, rfl⟩
            have hcT : Clean lT.ps := by rw [hlT]; exact HC.out
            have hwT : lT.f.st.wait = false := by rw [hlT]; exact HWT.out
            rw [← hlT] at hP6 d1 d2 d3 d4
            rw [HWT.out] at d2
            have hEX := d1.expire d2 hwT hcT
            obtain ⟨c2, h2, hP2⟩ := hP6
            have hTC := d1.tick_contract c2.gf 50 (by omega) (by omega)
            have c0 := hP2.blk.cell 0; have c10 := hP2.blk.cell 10
            simp only [lkCells, List.cons_append, List.nil_append, List.getElem?_cons_zero, List.getElem?_cons_succ, pt, d1.bad] at c0 c10
            rw [h2] at c0 c10
            have HP2 := Lib.hid hP2; have H2 := Lib.hid h2; have HTC := Lib.hid hTC; have D1 := Lib.hid d1; have D3 := Lib.hid d3; have D4 := Lib.hid d4
            clear hP2 h2 hTC d1 d2 d3 d4 hcT hwT hlT HTH
            rcases hEX with ⟨t1, hDu, hs1, hs2⟩ | t1
            · have hTC2 := HTC.out
              rw [t1] at hTC2
              obtain ⟨sT, hsT⟩ : ∃ sT, sT = (tickF lT.s 50).1 := ⟨_, rfl⟩
              rw [← hsT] at hTC2 hDu hs1 hs2
              have HTC2 := Lib.hid hTC2; have HDU := Lib.hid hDu; have HS1 := Lib.hid hs1; have HS2 := Lib.hid hs2
              clear hTC2 HTC hDu hs1 hs2 hsT t1
              go_wp2_with fail
              obtain ⟨S1, hI1, hlt, hgv⟩ := HP2.out.fop.callG
              refine (HTC2.out S1 _ hI1).mono ?_
              rintro e W7 ⟨v, S2, rfl, hPt, hGv⟩
              obtain ⟨hX, hQ, hR, hF⟩ := hgv hPt hGv
              have hP7 : LkM wB W7 c2 (lkCells c2 { lT with s := sT }) { lT with s := sT } := HP2.out.call hX hR
              obtain ⟨ea, ec, hev⟩ := qform hQ
              subst hev
              have HP7 := Lib.hid (show LkIn wB W7 L { lT with s := sT } from ⟨c2, H2.out, hP7⟩)
              clear hI1 hlt hgv hPt hGv hX hQ hR hF hP7 HTC2 HP2 c0 c10 H2
              go_upto_block 4 with fail
              go_cut [] (fun W2 => ∃ l3 j bo3, LkIn wB W2 L l3 ∧ Du k n0 l3 pks N j bo3 ∧ j = l3.s.sent.length ∧ (l3.s.waiting = [] ∨ l3.s.sent.length = k))
              case first =>
                go_wp2_with fail
                go_loopw [13] (fun iv wr => ∃ j : Nat, iv = .int .i64 j ∧ ∃ l3 bo3, LkIn wB wr L l3 ∧ Du k n0 l3 pks N j bo3) (fun iv _ => 400 - (intOf iv).toNat)
                case atStart => exact ⟨0, rfl, _, _, HP7.out, HDU.out⟩
                case round =>
                  obtain ⟨j, rfl, l3, bo3, hP8, hDu⟩ := hrel
                  clear HP7 HDU
                  have hj1 := hDu.jl
                  have hj2 := hDu.li.inv.sl; have hj3 := hDu.li.inv.hk
                  simp only [prOf] at hj2
                  have hj4 : j ≤ 127 := by omega
                  have hj5 : (j : Int) < 400 := by omega
                  have hRN := run_any hDu HG.out hp hP8
                  have HDU := Lib.hid hDu
                  clear hP8 hDu hj1 hj2 hj3
                  rcases hRN with ⟨ht, e1, e2⟩ | ⟨l4, ht, harr⟩
                  · have HT := Lib.hid ht; have HE1 := Lib.hid e1; have HE2 := Lib.hid e2
                    clear ht e1 e2
                    go_wp2_with fail
                    refine HT.out.mono ?_
                    rintro e W8 ⟨rfl, hP8⟩
                    have HP8 := Lib.hid hP8
                    clear hP8 HT
                    go_wp2_with fail
                    go_meet
                    exact ⟨l3, j, bo3, HP8.out, HDU.out, HE1.out, HE2.out⟩
                  · have HT := Lib.hid ht; have HAR := Lib.hid harr
                    clear ht harr
                    go_wp2_with fail
                    refine HT.out.mono ?_
                    rintro e W8 ⟨rfl, hP8⟩
                    have HA2 := Lib.hid (HAR.out _ hP8)
                    clear hP8 HT HAR
                    go_wp2_with fail
                    refine HA2.out.mono ?_
                    rintro e W9 ⟨rfl, l5, bo5, hP9, hDu5⟩
                    have HP9 := Lib.hid hP9; have HD5 := Lib.hid hDu5
                    clear hP9 hDu5 HA2 HDU
                    go_wp2_with fail
                    go_roundw
                    case rel => exact ⟨j + 1, by go_num, l5, bo5, HP9.out, HD5.out⟩
                    case measure => simp [intOf]; omega
              case rest =>
                obtain ⟨l3, j, bo3, ⟨c3, h3, hP3⟩, hDu, hj, hk2⟩ := hcut
                clear HP7
                have hI3 := hDu.li
                have hm2 : RestL (r + 1) (toldS n0 N (N + j) l3) := by
                  obtain ⟨q1, q2, q3, q4⟩ := hI3.told
                  have g1 := hI3.len; have g2 := HLEN.out; have g3 := HWL.out; have g4 := HSL.out; have g5 := HKK.out; have g6 := HZ.out
                  have g7 := HI.out.inv.Nb; have g8 := HI.out.acc; have g9 := HI.out.bN; have g10 := hI3.inv.wl
                  simp only [prOf] at g7 g10
                  rw [g8] at g7
                  right
                  rw [q3, q4]
                  have e0 : (N + j - N) = j := by omega
                  rw [e0, hj]
                  refine ⟨by omega, ?_⟩
                  rcases HM.out with m0 | ⟨m1, m2⟩
                  · omega
                  · rcases hk2 with hk2 | hk2
                    · rw [hk2]; simp only [List.length_nil]; omega
                    · omega
                have HP := Lib.hid hP3; have HcL := Lib.hid h3; have HI3 := Lib.hid hI3; have HM2 := Lib.hid hm2; have HC3 := Lib.hid hDu.clean; have HW3 := Lib.hid hDu.wait
                obtain ⟨nw, hnw⟩ : ∃ nw, nw = nwOf n0 (N + j) l3 := ⟨_, rfl⟩
                have hW := lk_word (gg := c3.gg) HI3.out
                have hW2 : ∀ (W1 : World), Blk W1 c3.gg l3.f.cells 80 → Calls Tryz.prog 9 #[.pointer (some ⟨c3.gg, 0, none⟩)] W1 fun e w' => e = .returned (.int .u32 (nw : Nat)) ∧ Below W1.heap.size W1 w' := by rw [hnw]; exact hW
                have HW := Lib.hid hW2; have HNW := Lib.hid hnw
                have hwl9 : l3.words.length ≤ 1000000 := by rw [HI3.out.words_nil]; simp
                clear hW hW2 hnw hP3 h3 hDu hj hk2 hI3 hm2 HDU HS1 HS2 D1 D3 D4 HM HI HC HWT HLEN HWL HSL HKK HZ
                go_upto_region 27 with fail
                go_cut [] (fun W2 => LkIn wB W2 L { l3 with words := l3.words ++ [nw] })
                case first =>
                  rw [← HcL.out]
                  obtain ⟨c, hc⟩ : ∃ c, c = c3 := ⟨_, rfl⟩
                  subst hc
                  clear l
                  obtain ⟨l, hl⟩ : ∃ l, l = l3 := ⟨_, rfl⟩
                  subst hl
                  obtain ⟨i0, hi0, hz0, hz1, hz2⟩ := info_parts info_u32
                  have x0 : ∀ W', Blk W' c.L (lkCells c l) 39 → (W'.cell? ⟨c.L, 8, none⟩ = some c.wv ∧ W'.cell? ⟨c.L, 1, none⟩ = some (.pointer (some ⟨c.gg, 0, none⟩))) := fun W' k => ⟨k.cell 8, k.cell 1⟩
                  refine region_end (fun W' => Blk W' c.L (lkCells c l) 39) 14 (by kernel_rfl) HP.out.blk.drew (fun hInv hHeld => ?_)
                  have hPd := HP.out.drew
                  generalize wc.drew = W0 at hPd hHeld ⊢
                  clear HP
                  have HP := Lib.hid hPd
                  clear hPd
                  refine WpEnd.take (i := 0) (some 158) (v := ?_) rfl rfl (by kernel_rfl) (by kernel_rfl) (by kernel_rfl) (fun _ _ _ h => h) (by kernel_rfl) hInv (by assumption) (by rfl) ?_ (fun hInv2 => ?_)
                  rotate_left
                  · (intro w hSw; (try dsimp only at hSw); obtain ⟨s8, s1⟩ := x0 _ hSw; go_simp; (try with_reducible rfl))
                  clear hInv; have hInv := hInv2; clear hInv2
                  simp only [Act.put, List.setIfInBounds_toArray, List.set_cons_zero, List.set_cons_succ]
                  refine WpEnd.take (i := 1) (some 159) (v := ?_) rfl rfl (by kernel_rfl) (by kernel_rfl) (by kernel_rfl) (fun _ _ _ h => h) (by kernel_rfl) hInv (by assumption) (by rfl) ?_ (fun hInv2 => ?_)
                  rotate_left
                  · (intro w hSw; (try dsimp only at hSw); obtain ⟨s8, s1⟩ := x0 _ hSw; go_simp; (try with_reducible rfl))
                  clear hInv; have hInv := hInv2; clear hInv2
                  simp only [Act.put, List.setIfInBounds_toArray, List.set_cons_zero, List.set_cons_succ]
                  refine WpEnd.take (i := 2) (some 160) (v := ?_) rfl rfl (by kernel_rfl) (by kernel_rfl) (by kernel_rfl) (fun _ _ _ h => h) (by kernel_rfl) hInv (by assumption) (by rfl) ?_ (fun hInv2 => ?_)
                  rotate_left
                  · (intro w hSw; (try dsimp only at hSw); obtain ⟨s8, s1⟩ := x0 _ hSw; go_simp; (try with_reducible rfl))
                  clear hInv; have hInv := hInv2; clear hInv2
                  simp only [Act.put, List.setIfInBounds_toArray, List.set_cons_zero, List.set_cons_succ]
                  refine WpEnd.take (i := 3) (some 161) (v := ?_) rfl rfl (by kernel_rfl) (by kernel_rfl) (by kernel_rfl) (fun _ _ _ h => h) (by kernel_rfl) hInv (by assumption) (by rfl) ?_ (fun hInv2 => ?_)
                  rotate_left
                  · (intro w hSw; (try dsimp only at hSw); obtain ⟨s8, s1⟩ := x0 _ hSw; go_simp; (try with_reducible rfl))
                  clear hInv; have hInv := hInv2; clear hInv2
                  simp only [Act.put, List.setIfInBounds_toArray, List.set_cons_zero, List.set_cons_succ]
                  refine WpEnd.take (i := 4) (some 162) (v := ?_) rfl rfl (by kernel_rfl) (by kernel_rfl) (by kernel_rfl) (fun _ _ _ h => h) (by kernel_rfl) hInv (by assumption) (by rfl) ?_ (fun hInv2 => ?_)
                  rotate_left
                  · (intro w hSw; (try dsimp only at hSw); obtain ⟨s8, s1⟩ := x0 _ hSw; go_simp; (try with_reducible rfl))
                  clear hInv; have hInv := hInv2; clear hInv2
                  simp only [Act.put, List.setIfInBounds_toArray, List.set_cons_zero, List.set_cons_succ]
                  refine WpEnd.take (i := 5) (some 163) (v := ?_) rfl rfl (by kernel_rfl) (by kernel_rfl) (by kernel_rfl) (fun _ _ _ h => h) (by kernel_rfl) hInv (by assumption) (by rfl) ?_ (fun hInv2 => ?_)
                  rotate_left
                  · (intro w hSw; (try dsimp only at hSw); obtain ⟨s8, s1⟩ := x0 _ hSw; go_simp; (try with_reducible rfl))
                  clear hInv; have hInv := hInv2; clear hInv2
                  simp only [Act.put, List.setIfInBounds_toArray, List.set_cons_zero, List.set_cons_succ]
                  refine WpEnd.take (i := 6) (some 164) (v := ?_) rfl rfl (by kernel_rfl) (by kernel_rfl) (by kernel_rfl) (fun _ _ _ h => h) (by kernel_rfl) hInv (by assumption) (by rfl) ?_ (fun hInv2 => ?_)
                  rotate_left
                  · (intro w hSw; (try dsimp only at hSw); obtain ⟨s8, s1⟩ := x0 _ hSw; go_simp; (try with_reducible rfl))
                  clear hInv; have hInv := hInv2; clear hInv2
                  simp only [Act.put, List.setIfInBounds_toArray, List.set_cons_zero, List.set_cons_succ]
                  refine WpEnd.take (i := 7) (some 165) (v := ?_) rfl rfl (by kernel_rfl) (by kernel_rfl) (by kernel_rfl) (fun _ _ _ h => h) (by kernel_rfl) hInv (by assumption) (by rfl) ?_ (fun hInv2 => ?_)
                  rotate_left
                  · (intro w hSw; (try dsimp only at hSw); obtain ⟨s8, s1⟩ := x0 _ hSw; go_simp; (try with_reducible rfl))
                  clear hInv; have hInv := hInv2; clear hInv2
                  simp only [Act.put, List.setIfInBounds_toArray, List.set_cons_zero, List.set_cons_succ]
                  refine WpEnd.take (i := 8) (some 166) (v := ?_) rfl rfl (by kernel_rfl) (by kernel_rfl) (by kernel_rfl) (fun _ _ _ h => h) (by kernel_rfl) hInv (by assumption) (by rfl) ?_ (fun hInv2 => ?_)
                  rotate_left
                  · (intro w hSw; (try dsimp only at hSw); obtain ⟨s8, s1⟩ := x0 _ hSw; go_simp; (try with_reducible rfl))
                  clear hInv; have hInv := hInv2; clear hInv2
                  simp only [Act.put, List.setIfInBounds_toArray, List.set_cons_zero, List.set_cons_succ]
                  refine WpEnd.ready (rs := [9]) (by kernel_rfl) (by simp) ?_
                  refine EachEnd.cons (some 167) rfl rfl (by decide) (by kernel_rfl) hInv (fun K hKK hKB => ?_) EachEnd.nil
                  refine step_call rfl 9 #[.tmp 166] _ rfl #[.pointer (some ⟨c.gg, 0, none⟩)] (by kernel_rfl) (fun x V => x = .int .u32 (nw : Nat) ∧ Below W0.heap.size W0 V) ((HW.out W0 HP.out.farm).mono fun e V h => ⟨_, h.1, rfl, h.2⟩) ?_
                  rintro x Wc ⟨rfl, hL0⟩
                  refine hKK.out _ _ (HP.out.blk.below hL0 HP.out.blk.lt) (fun hInv2 hHeld2 => ?_)
                  clear hKK hKB K hInv hHeld; have hInv := hInv2; have hHeld := hHeld2; clear hInv2 hHeld2
                  simp only [Act.put, List.setIfInBounds_toArray, List.set_cons_zero, List.set_cons_succ]
                  refine WpEnd.ready (rs := [10]) (by kernel_rfl) (by simp) ?_
                  refine EachEnd.cons (some 168) rfl rfl (by decide) (by kernel_rfl) hInv (fun K hKK hKB => ?_) EachEnd.nil
                  refine step_build_1 35 41 (u32Row [nw]) rfl _ rfl _ rfl (build_w1 _ nw) ?_
                  have hL1 := hL0.alloc hL0.size (Obj.cells (u32Row [nw]).toArray 41)
                  have hy1 := Blk.new Wc (u32Row [nw]) 41
                  obtain ⟨nb, hnb⟩ : ∃ nb, nb = Wc.heap.size := ⟨_, rfl⟩
                  rw [← hnb] at hy1 ⊢
                  obtain ⟨Wb, hWb⟩ : ∃ Wb, Wb = Wc.alloc (Obj.cells (u32Row [nw]).toArray 41) := ⟨_, rfl⟩
                  rw [← hWb] at hL1 hy1 ⊢
                  refine hKK.out _ _ (HP.out.blk.below hL1 HP.out.blk.lt) (fun hInv2 hHeld2 => ?_)
                  clear hWb hnb
                  clear hKK hKB K hInv hHeld; have hInv := hInv2; have hHeld := hHeld2; clear hInv2 hHeld2
                  simp only [Act.put, List.setIfInBounds_toArray, List.set_cons_zero, List.set_cons_succ]
                  refine WpEnd.ready (rs := [11]) (by kernel_rfl) (by simp) ?_
                  refine EachEnd.cons (some 169) rfl rfl (by decide) (by kernel_rfl) hInv (fun K hKK hKB => ?_) EachEnd.nil
                  refine step_append_q 35 41 1 4 i0 (.int .u32 0) rfl _ _ rfl Tryz.underlying35 hi0 hz0 rfl hz1 hz2 0 c.wv l.words.length _ rfl (q_below HP.out.words hL1 (Nat.le_refl _)) nb 0 1 1 (u32Row [nw]) rfl rfl (by intro z hz; simp [u32Row] at hz; subst hz; rfl) (fun j z hj => by rw [Nat.zero_add]; exact (hy1.cell j).trans hj) (by omega) (by unfold maxLen; omega) (Nat.zero_le _) ?_
                  intro v8 Wd hq hk hm
                  obtain ⟨hPn, hTn⟩ := HP.out.pushW (q := l.words ++ [nw]) hL1 hk hm (by simp only [List.length_append, List.length_singleton, u32Row_snoc]; exact hq)
                  refine hKK.out _ _ hPn.blk (fun hInv2 hHeld2 => ?_)
                  clear HP hL0 hL1 hy1 hk hm hq hTn
                  have HP := Lib.hid hPn
                  clear hPn
                  clear hKK hKB K hInv hHeld; have hInv := hInv2; have hHeld := hHeld2; clear hInv2 hHeld2
                  simp only [Act.put, List.setIfInBounds_toArray, List.set_cons_zero, List.set_cons_succ]
                  refine WpEnd.take (i := 12) (some 170) (v := ?_) rfl rfl (by kernel_rfl) (by kernel_rfl) (by kernel_rfl) (fun _ _ _ h => h) (by kernel_rfl) hInv (by assumption) (by rfl) ?_ (fun hInv2 => ?_)
                  rotate_left
                  · (intro w hSw; (try dsimp only at hSw); obtain ⟨s8, s1⟩ := x0 _ hSw; go_simp; (try with_reducible rfl))
                  clear hInv; have hInv := hInv2; clear hInv2
                  simp only [Act.put, List.setIfInBounds_toArray, List.set_cons_zero, List.set_cons_succ]
                  refine WpEnd.take (i := 13) (some 171) (v := ?_) rfl rfl (by kernel_rfl) (by kernel_rfl) (by kernel_rfl) (fun _ _ _ h => h) (by kernel_rfl) hInv (by assumption) (by rfl) ?_ (fun hInv2 => ?_)
                  rotate_left
                  · (intro w hSw; (try dsimp only at hSw); obtain ⟨s8, s1⟩ := x0 _ hSw; go_simp; (try with_reducible rfl))
                  clear hInv; have hInv := hInv2; clear hInv2
                  simp only [Act.put, List.setIfInBounds_toArray, List.set_cons_zero, List.set_cons_succ]
                  refine WpEnd.ready (rs := [14]) (by kernel_rfl) (by simp) ?_
                  refine EachEnd.last rfl (fun K hKK => ?_)
                  obtain ⟨va, vc, hve⟩ := qform HP.out.words
                  simp only [List.length_append, List.length_singleton] at hve
                  subst hve
                  have c8 := HP.out.blk.cell 8; have f8 := HP.out.blk.free 8
                  simp only [lkCells, List.cons_append, List.nil_append, List.getElem?_cons_zero, List.getElem?_cons_succ] at c8
                  have hPp := HP.out.poke 8 (.slice va (l.words.length + 1) vc)
                  go_simp
                  refine hKK.out _ _ ?_
                  clear hKK K
                  refine WpEnd.done (by kernel_rfl) ?_ _
                  refine post_any (fun W' => ∃ c' : Lc, c'.L = c.L ∧ c'.P = c.P ∧ LkM wB W' c' (lkCells c' { l with words := l.words ++ [nw] }) { l with words := l.words ++ [nw] }) ⟨{ c with wv := .slice va (l.words.length + 1) vc }, rfl, rfl, hPp⟩ ?_
                  clear hPp HP c8 f8 x0 hi0 hz0 hz1 hz2 i0 HW hInv hHeld
                  rintro W3 ⟨c', hcL, hcP, hP⟩
                  have HP := Lib.hid hP; have HCL := Lib.hid hcL; have HCP := Lib.hid hcP
                  clear hP hcL hcP
                  rw [HcL.out]
                  go_wp2_with fail
                  go_meet
                  exact ⟨c', HCL.out.trans HcL.out, HP.out⟩
                case rest =>
                  clear HP HW
                  obtain ⟨c1, h1, hP1⟩ := hcut
                  rw [HNW.out] at hP1
                  have hTH := told_hear HI3.out hP1
                  rw [h1] at hTH
                  have HTH := Lib.hid hTH
                  clear hTH hP1 h1 c1
                  go_wp2_with fail
                  refine HTH.out.mono ?_
                  rintro e W10 ⟨rfl, hP10⟩
                  obtain ⟨d1, d2, d3, d4⟩ := HI3.out.told
                  have HP10 := Lib.hid hP10; have D1 := Lib.hid d1
                  clear hP10 d1 d2 d3 d4 HTH
                  go_wp2_with fail
                  go_roundw
                  case rel => exact ⟨r + 1, by go_num, _, HP10.out, pks, N + j, N + j, bo3, D1.out, hp, HC3.out, HW3.out, HM2.out⟩
                  case measure => simp [intOf]; omega
            · have hTC2 := HTC.out
              rw [t1] at hTC2
              have HTC2 := Lib.hid hTC2
              clear hTC2 HTC t1
              have HWB := HL
              go_wp2_with fail
              obtain ⟨S1, hI1, hlt, hgv⟩ := HP2.out.fop.callG
              refine (HTC2.out S1 _ hI1).mono ?_
              rintro e W7 ⟨v, S2, rfl, hPt, hGv⟩
              obtain ⟨hX, hQ, hR, hF⟩ := hgv hPt hGv
              have hP7 : LkM wB W7 c2 (lkCells c2 { lT with s := (tickF lT.s 50).1 }) { lT with s := (tickF lT.s 50).1 } := HP2.out.call hX hR
              obtain ⟨ea, ec, hev⟩ := qform hQ
              subst hev
              have c10 := hP7.blk.cell 10
              simp only [lkCells, List.cons_append, List.nil_append, List.getElem?_cons_zero, List.getElem?_cons_succ, D1.out.bad] at c10
              rw [H2.out] at c10
              have HB7 := Lib.hid (HL.out.trans (hP7.fop.toBelow.mono HL.out.size))
              clear hI1 hlt hgv hPt hGv hX hQ hR hF hP7 HTC2 HP2 c0
              go_wp2_with fail
              go_ret
              exact ⟨rfl, HB7.out⟩
    case rest =>
      clear HP HI1 HCL HW1
      obtain ⟨l9, ⟨c9, h9, hP9⟩, hb9, ho9, hc9⟩ := hcut
      obtain ⟨s9, t9, hv9⟩ := qform hP9.sent
      have d4 := hP9.blk.cell 4; have d5 := hP9.blk.cell 5; have d9 := hP9.blk.cell 9; have d10 := hP9.blk.cell 10
      simp only [lkCells, List.cons_append, List.nil_append, List.getElem?_cons_zero, List.getElem?_cons_succ, hb9, ho9, hc9, hv9] at d4 d5 d9 d10
      rw [h9] at d4 d5 d9 d10
      have HB9 := Lib.hid (HL.out.trans (hP9.fop.toBelow.mono HL.out.size))
      clear hP9 h9 hb9 ho9 hc9 hv9
      go_upto_region 29 with fail
      go_quiet (fail)
      refine post_any (fun W => Below w.heap.size w W) (drewN_below HB9.out _) ?_
      clear HB9 d4 d5 d9 d10
      rintro W11 hB11
      have HB11 := Lib.hid hB11
      clear hB11
      go_wp2_with fail
      go_ret
      exact ⟨rfl, HB11.out⟩
end
section
open Go.RowKit
section
open Go.ChangeShapes Go.WideShapes Go.ChangeAt Go.Deep
section
variable {H : Type} {enc : TypeId × Value → H} {w : World} {base : Nat} {spare : Nat → Bool} {held : Bool}
set_option maxRecDepth 100000 in
theorem ints_open2 {fuel : Nat} {v : Value} {x : DataW H × List MemPlace} (hf : DataW.trod enc Tryz.prog w base spare held fuel 22 [v] = some x) :
    ∃ a n cap, ∃ S : Nat → Int, v = .slice a n cap ∧ n ≤ 9223372036854775807 ∧ n ≤ cap ∧ RowAt w a n (fun i => .int .i64 (S i)) ∧ ∀ i, i < n → I64 (S i) := by
  rcases open_slice Tryz.underlying22 hf with ⟨hcs, hx⟩ | ⟨a, len, cap, m, n, D, Pl, hcs, hb, hl, hm, hmm, hx, hel⟩
  · simp at hcs
    subst hcs
    exact ⟨none, 0, 0, fun _ => 0, rfl, by omega, by omega, fun i hi => by omega, fun i hi => by omega⟩
  · simp at hcs
    subst hcs
    have hc1 : Tryz.prog.cellsOf 3 = 1 := by kernel_rfl
    have hlm : len ≤ m := by rw [hmm]; split <;> omega
    obtain ⟨b, off, spot⟩ := a
    have hspot : 0 < len → spot = none := fun h0 => by
      obtain ⟨cs', h1, h2⟩ := hel 0 (by omega)
      obtain ⟨s, rfl, _⟩ := DataW.trod_int Tryz.underlying3 h2
      rw [hc1] at h1
      obtain ⟨_, _, hc⟩ := World.cells?_some h1
      have c0 := hc 0 (by omega)
      have := World.cell?_spot (c0.trans rfl)
      simpa [Addr.add] using this
    have each : ∀ i, i < len → ∃ s : Int, b < w.heap.size ∧ w.cell? ⟨b, off + i, none⟩ = some (.int .i64 s) ∧ (Lit.int .i64 s).wf = true := fun i hi => by
      obtain ⟨cs', h1, h2⟩ := hel i (by omega)
      obtain ⟨s, rfl, _, hw⟩ := DataW.trod_int Tryz.underlying3 h2
      rw [hc1] at h1
      obtain ⟨_, _, hc⟩ := World.cells?_some h1
      obtain rfl := hspot (by omega)
      have hcell : w.cell? ⟨b, off + i, none⟩ = some (.int .i64 s) := by
        have := hc 0 (by omega)
        rw [add_add] at this
        rw [show (some (Value.int .i64 s) : Option Value) = [Value.int .i64 s][0]? from rfl, ← this]
        congr 1
        unfold Addr.add
        split
        · rename_i h; rw [show off + i = off by omega]
        · simp only [Addr.mk.injEq, and_true, true_and]; omega
      exact ⟨s, World.block_lt_of_cell? _ _ hcell, hcell, hw⟩
    obtain ⟨S, hS⟩ := choose_lt (α := Int) each
    refine ⟨some ⟨b, off, spot⟩, len, cap, S, rfl, ?_, hl, fun i hi => ?_, fun i hi => bounds_i64 (hS i hi).2.2⟩
    · have : cap ≤ 9223372036854775807 := hm
      omega
    · obtain ⟨h1, h2, _⟩ := hS i hi
      obtain rfl := hspot (by omega)
      exact ⟨b, off, rfl, h1, h2⟩
/-- What a course among the arguments is. -/
structure CourseAt (w : World) (qa sa : Option Addr) (qn qc sn sc : Nat) (Q S : Nat → Int) : Prop where
  q1 : qn ≤ 9223372036854775807
  s1 : sn ≤ 9223372036854775807
  s2 : sn ≤ sc
  qr : RowAt w qa qn (fun i => .int .i64 (Q i))
  qi : ∀ i, i < qn → I64 (Q i)
  sr : RowAt w sa sn (fun i => .int .i64 (S i))
  si : ∀ i, i < sn → I64 (S i)
theorem course15_open {fuel : Nat} {cs : List Value} {x : DataW H × List MemPlace} (h : DataW.trod enc Tryz.prog w base spare held fuel 24 cs = some x) : ∃ qa sa qn qc sn sc Q S, cs = [.slice qa qn qc, .slice sa sn sc] ∧ CourseAt w qa sa qn qc sn sc Q S := by
  obtain ⟨hl, hf⟩ := trod_cells Tryz.underlying24 (by kernel_rfl) (by kernel_rfl) h
  obtain ⟨v0, y0, n0, e0, t0⟩ := hf 0 _ rfl
  obtain ⟨v1, y1, n1, e1, t1⟩ := hf 1 _ rfl
  obtain ⟨qa, qn, qc, Q, c0, a1, a2, a3, a4⟩ := ints_open2 t0
  obtain ⟨sa, sn, sc, S, c1, b1, b2, b3, b4⟩ := ints_open2 t1
  subst c0 c1
  refine ⟨qa, sa, qn, qc, sn, sc, Q, S, ?_, ⟨a1, b1, b2, a3, a4, b3, b4⟩⟩
  match cs, hl with
  | [d0, d1], _ =>
    simp only [List.getElem?_cons_zero, List.getElem?_cons_succ, Option.some.injEq] at e0 e1
    rw [e0, e1]
set_option maxRecDepth 100000 in
theorem open_course15 {r : Reach} {b0 : Nat} {v : Value} {d : DataW H} {p : List MemPlace} (hv : Value.okWide Tryz.prog w r b0 24 v) (h : DataW.Trod enc Tryz.prog w base spare held 24 v d p) : ∃ qa sa qn qc sn sc Q S, v = .agg #[.slice qa qn qc, .slice sa sn sc] ∧ CourseAt w qa sa qn qc sn sc Q S := by
  obtain ⟨cs, rfl, hsz⟩ := okWide_struct Tryz.underlying24 hv
  obtain ⟨fuel, hf⟩ := h
  obtain ⟨qa, sa, qn, qc, sn, sc, Q, S, hc, hw⟩ := course15_open hf
  refine ⟨qa, sa, qn, qc, sn, sc, Q, S, ?_, hw⟩
  obtain ⟨l⟩ := cs
  have : l = [.slice qa qn qc, .slice sa sn sc] := hc
  rw [this]
/-- An array of bytes among the tables. -/
theorem bytes_trod {N fuel : Nat} {t : TypeId} {cs : List Value} {ds : List (DataW H)} {p : List MemPlace} (ht : Tryz.prog.underlying t = some (.array N 5)) (h : DataW.trod enc Tryz.prog w base spare held fuel t cs = some (.agg ds, p)) :
    ∀ i, i < N → ∃ x : Int, cs[i]? = some (.int .u8 x) ∧ ds[i]? = some (.lit (.int .u8 x)) := by
  intro i hi
  obtain ⟨xs, m, -, hx, hl, hn, hel⟩ := DataW.trod_array ht h
  have hc : Tryz.prog.cellsOf 5 = 1 := by kernel_rfl
  have h1 := hel i hi
  rw [hc, Nat.mul_one, List.getElem?_eq_getElem (by omega : i < xs.length)] at h1
  obtain ⟨x, e1, e2, -⟩ := DataW.trod_int Tryz.underlying5 h1
  simp only [Prod.mk.injEq, DataW.agg.injEq] at hx
  refine ⟨x, ?_, ?_⟩
  · have h2 : ((cs.drop i).take 1)[0]? = some (.int .u8 x) := by rw [e1]; rfl
    rw [List.getElem?_take_of_lt (by omega), List.getElem?_drop, Nat.add_zero] at h2
    exact h2
  · rw [hx.1, List.getElem?_map, List.getElem?_eq_getElem (by omega : i < xs.length), e2]; rfl
end
end
end
end Go.Proofs.YtgopighmifpefaaGreatDoor
