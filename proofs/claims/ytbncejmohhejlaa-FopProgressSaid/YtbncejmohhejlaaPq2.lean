/- What is proved here: the walk of the law about the progress of the pair. -/
import Derived.Test.YtbncejmohhejlaaPq1
import Derived.Deep.CutBlock
set_option linter.unusedVariables false
set_option linter.unusedSimpArgs false
namespace Go.Proofs.Ytbncejmohhejlaa
open Go.RowKit
def upLen (P : Nat) (w : World) : Nat := match w.cell? ⟨P, 2, none⟩ with
  | some (.slice _ n _) => n
  | _ => 0
theorem PairAt.upLen {w W : World} {P gf gg : Nat} {uv dv nv av : Value} {p : Pr} (h : PairAt w W P gf gg uv dv nv av p) : upLen P W = p.up.length := by
  obtain ⟨a, c, e⟩ := qform h.up
  have := h.blk.cell 2
  simp only [pairCells, List.getElem?_cons_zero, List.getElem?_cons_succ] at this
  unfold Go.Proofs.Ytbncejmohhejlaa.upLen
  rw [this, e]
theorem drewN_below {B : Nat} {a w : World} (h : Below B a w) (n : Nat) : Below B a (w.drewN n) := ⟨h.os, h.tape, h.output, h.size, h.block⟩
theorem acked_eta (p : Pr) (b : Nat) (h : p.acked = b) (s : Fs) : ({ { p with s := s } with acked := b + 0, alert := p.alert } : Pr) = { p with s := s } := by subst h; rfl
/-- How much there is still to be done ahead of round r. -/
def Rest (k n0 : Nat) (r : Nat) (p : Pr) : Prop :=
  (p.alert = 1 ∧ r = 0) ∨ ∃ b, Inv k n0 100 20 p [] [] b ∧ p.units.length ≤ 1500 ∧ (r = 0 ∨ (p.s.sent.length = 0 ∧ p.s.waiting.length + r ≤ 257))
theorem PairAt.sentC {w W : World} {P gf gg : Nat} {uv dv nv av : Value} {p : Pr} (h : PairAt w W P gf gg uv dv nv av p) (hw : p.s.window ≠ 0) : Calls Try.prog 19 #[.pointer (some ⟨gf, 0, none⟩)] W fun e w' => e = .returned (.int .i64 (p.s.sent.length : Nat)) ∧ W = w' := by
  obtain ⟨S1, hI, -⟩ := h.fop.call
  exact Sent_in p.s gf S1 W hw hI
theorem PairAt.waitC {w W : World} {P gf gg : Nat} {uv dv nv av : Value} {p : Pr} (h : PairAt w W P gf gg uv dv nv av p) (hw : p.s.window ≠ 0) : Calls Try.prog 20 #[.pointer (some ⟨gf, 0, none⟩)] W fun e w' => e = .returned (.int .i64 (p.s.waiting.length : Nat)) ∧ W = w' := by
  obtain ⟨S1, hI, -⟩ := h.fop.call
  exact Waiting_in p.s gf S1 W hw hI
set_option maxHeartbeats 8000000 in
set_option maxRecDepth 100000 in
theorem FopProgress_out (a c : Int) (sa : Option Addr) (sn sc : Nat) (w : World) (hsn : sn ≤ 9223372036854775807) (ht : 1500 < sn) :
    Calls Try.prog 7 #[.int .i64 a, .int .i64 c, .slice sa sn sc] w fun e w' => e = .returned (.bool true) ∧ Below w.heap.size w w' := by
  have k1 : (1500 : Int) < (sn : Int) := by omega
  go_enter Try.func7, Try.ntmps7
  go_wp2_with fail
  refine (shown15_any _).mono ?_
  rintro e w1 ⟨rfl, hL⟩
  have HL := Lib.hid hL; clear hL
  go_wp2_with fail
  go_ret
  exact ⟨rfl, HL.out⟩
set_option maxHeartbeats 16000000 in
set_option maxRecDepth 100000 in
theorem FopProgress_in (a c : Int) (sa : Option Addr) (sn sc : Nat) (S : Nat → Int) (w : World) (ha : I64 a) (hc : I64 c) (hsn : sn ≤ 1500) (hr : RowAt w sa sn (fun i => .int .i64 (S i))) (hS : ∀ i, i < sn → I64 (S i)) :
    Calls Try.prog 7 #[.int .i64 a, .int .i64 c, .slice sa sn sc] w fun e w' => e = .returned (.bool true) ∧ Below w.heap.size w w' := by
  have HR := Lib.hid hr
  have HSS := Lib.hid hS
  have HBG := Lib.hid (fun W => begin_any a 99 c 20 W ha ⟨by decide, by decide⟩ hc (by decide) (by decide))
  obtain ⟨k, hk⟩ : ∃ k, k = (1 + a % 127).toNat := ⟨_, rfl⟩
  obtain ⟨n0, hn0⟩ : ∃ n, n = (c % 256).toNat := ⟨_, rfl⟩
  rw [← hk, ← hn0, show (1 + (99 : Int) % 100).toNat = 100 by decide] at HBG
  have HI0 := Lib.hid (start_inv k 100 20 n0 (by omega) (by omega) ⟨by decide, by decide⟩ (by omega))
  clear hr hS ha hc hk hn0
  have k0 : ¬ (1500 : Int) < (sn : Int) := by omega
  go_enter Try.func7, Try.ntmps7
  go_wp2_with fail
  refine (shown15_any _).mono ?_
  rintro e w1 ⟨rfl, hL⟩
  have HL := Lib.hid hL; clear hL
  go_wp2_with fail
  refine (HBG.out _).mono ?_
  rintro e w2 ⟨P, gf, gg, rfl, hP⟩
  have HP0 := Lib.hid hP
  clear hP HBG
  have HF0 := Lib.hid (HI0.out.fin (c := 0) (Nat.le_refl 0) (Nat.zero_le _) (Nat.zero_le _))
  clear HI0
  go_upto_block 0 with fail
  go_cut [9] (fun p9 W2 => ∃ (i : Nat) (j : Int) (uv dv nv av : Value) (p : Pr), p9 = .int .i64 j ∧ i ≤ sn ∧ PairAt w1 W2 P gf gg uv dv nv av p ∧ Fin k n0 100 20 i p)
  case first =>
    go_wp2_with fail
    go_loopw [9] (fun iv wr => ∃ i : Nat, i ≤ sn ∧ iv = .int .i64 i ∧ ∃ uv dv nv av p, PairAt w1 wr P gf gg uv dv nv av p ∧ Fin k n0 100 20 i p) (fun iv _ => sn - (intOf iv).toNat)
    case atStart => exact ⟨0, Nat.zero_le _, rfl, _, _, _, _, _, HP0.out, HF0.out⟩
    case round =>
      obtain ⟨i, hi, rfl, uv, dv, nv, av, p, hP, hF⟩ := hrel
      obtain ⟨-, -, -, -, o5⟩ := hF.order
      have c7 := hP.blk.cell 7
      simp only [pairCells, List.getElem?_cons_zero, List.getElem?_cons_succ] at c7
      have HF := Lib.hid hF
      have HP := Lib.hid hP
      have HW := Lib.hid (HL.out.trans (hP.fop.toBelow.mono HL.out.size))
      clear hP hF HP0 HF0
      by_cases hgo : i < sn ∧ p.alert = 0
      · obtain ⟨hlt, hal⟩ := hgo
        have hlt2 : (i : Int) < (sn : Int) := by omega
        rw [hal] at c7
        obtain ⟨q, off, hsa, hql, hcell⟩ := HR.out.below HW.out (Nat.le_refl _) i hlt
        subst hsa
        have hI : ∃ ups dws b, Inv k n0 100 20 p ups dws b ∧ Sz i p ups dws := by
          rcases HF.out with h | h
          · exact h
          · have := h.1; omega
        obtain ⟨ups, dws, b, hI, hS⟩ := hI
        have HA := Lib.hid (act_any hI hS (by omega) (S i) (HSS.out i hlt) HP.out)
        clear hI hS HF HP
        go_wp2_with fail
        refine HA.out.mono ?_
        rintro e w3 ⟨rfl, uv', dv', nv', av', p', hP', hF'⟩
        have HP := Lib.hid hP'; have HF := Lib.hid hF'
        clear HA c7 hcell hP' hF'
        go_wp2_with fail
        go_roundw
        case rel => exact ⟨i + 1, by omega, by go_num, _, _, _, _, _, HP.out, HF.out⟩
        case measure => simp [intOf]; omega
      · have e1 : decide (i < sn) = true ∧ (p.alert == 0) = false ∨ decide (i < sn) = false := by
          by_cases h : i < sn
          · exact .inl ⟨by simpa using h, by simp only [beq_eq_false_iff_ne, ne_eq]; exact fun h2 => hgo ⟨h, h2⟩⟩
          · exact .inr (by simpa using h)
        clear hgo o5
        rcases e1 with ⟨e1, e2⟩ | e1
        all_goals
          go_wp2_with fail
          go_meet
          exact ⟨i, _, _, _, _, _, p, rfl, hi, HP.out, HF.out⟩
  case rest =>
  obtain ⟨i, j, uv, dv, nv, av, p, rfl, hi, hP, hF⟩ := hcut
  clear HP0 HF0
  have hR0 : Rest k n0 0 { { p with up := [] } with down := [] } := by
    rcases hF with ⟨ups, dws, b, h, hs⟩ | h
    · have := hs.un
      exact .inr ⟨b, { h with hup := rfl, u1 := (fun i hi => by cases hi), u2 := (fun i hi => by cases hi), u3 := List.Pairwise.nil, hdown := rfl, d1 := (fun x hx => by cases hx), d2 := List.Pairwise.nil, .. }, by show p.units.length ≤ 1500; omega, .inl rfl⟩
    · exact .inl ⟨h.1, rfl⟩
  have HR0 := Lib.hid hR0
  have f2 := hP.blk.free 2
  have hP1 := hP.rowUp (l := []) (v' := .slice none 0 0) ((Keep.refl _ wc).setCell (p := ⟨P, 2, none⟩) (.inl (by simp)) (.slice none 0 0)) (fun j hj => by cases hj) (q_nil _ _ _ _) (hP.blk.set 2 _)
  have f3 := hP1.blk.free 3
  have hP2 := hP1.rowDown (l := []) (v' := .slice none 0 0) ((Keep.refl _ _).setCell (p := ⟨P, 3, none⟩) (.inl (by simp)) (.slice none 0 0)) (fun j hj => by cases hj) (q_nil _ _ _ _) (hP1.blk.set 3 _)
  have c2 := hP.blk.cell 2
  have c3 := hP1.blk.cell 3
  simp only [pairCells, List.getElem?_cons_zero, List.getElem?_cons_succ] at c2 c3
  have HP2 := Lib.hid hP2
  clear hP1 hP2 hF hR0 hP hi
  go_upto_region 14 with fail
  refine gen_world (fun W => ∃ nv av p', PairAt w1 W P gf gg (.slice none 0 0) (.slice none 0 0) nv av p' ∧ Rest k n0 0 p') ⟨_, _, _, HP2.out, HR0.out⟩ ?_
  clear HP2 HR0 f2 f3 c2 c3
  rintro W2 ⟨nv', av', p', hP, hR0⟩
  have HP0 := Lib.hid hP; have HR0 := Lib.hid hR0; clear hP hR0
  go_wp2_with fail
  go_loopw [10] (fun iv wr => ∃ r : Nat, iv = .int .i64 r ∧ ∃ uv dv nv av p, PairAt w1 wr P gf gg uv dv nv av p ∧ Rest k n0 r p ∧ r ≤ 260) (fun iv _ => 260 - (intOf iv).toNat)
  case atStart => exact ⟨0, rfl, _, _, _, _, _, HP0.out, HR0.out, by omega⟩
  case round =>
    obtain ⟨r, rfl, uv, dv, nv, av, p, hP, hRest, hr260⟩ := hrel
    have HP := Lib.hid hP
    have HW := Lib.hid (HL.out.trans (hP.fop.toBelow.mono HL.out.size))
    clear HP0 HR0
    have c0 := hP.blk.cell 0; have c7 := hP.blk.cell 7
    simp only [pairCells, List.getElem?_cons_zero, List.getElem?_cons_succ] at c0 c7
    clear hP
    rcases hRest with ⟨hal, hr0⟩ | ⟨b, hI, hU, hm⟩
    · rw [hal] at c7
      have hrl : (r : Int) < 260 := by omega
      go_upto_region 15 with fail
      go_quiet (fail)
      refine post_any (fun W => PairAt w1 W P gf gg uv dv nv av p ∧ Below w.heap.size w W) ⟨HP.out.drewN _, drewN_below HW.out _⟩ ?_
      clear HP HW c0 c7
      rintro W5 ⟨hP, hW⟩
      have HW := Lib.hid hW
      have c7 := hP.blk.cell 7
      simp only [pairCells, List.getElem?_cons_zero, List.getElem?_cons_succ] at c7
      rw [hal] at c7
      clear hP hW
      go_upto_region 38 with fail
      go_quiet (fail)
      refine post_any (fun W => Below w.heap.size w W) (drewN_below HW.out _) ?_
      clear HW c7
      rintro W6 hW
      have HW := Lib.hid hW; clear hW
      go_wp2_with fail
      go_ret
      exact ⟨rfl, HW.out⟩
    · have hal := hI.al
      rw [hal] at c7
      have hlen := hI.len; have hwl := hI.wl; have hsl := hI.sl; have hk := hI.hk
      have hwin : p.s.window ≠ 0 := by rw [hI.win]; omega
      have hrl : (r : Int) < 260 := by omega
      have HSE := Lib.hid (fun n => (HP.out.drewN n).sentC hwin)
      have HWA := Lib.hid (fun n => (HP.out.drewN n).waitC hwin)
      have hwr : IntKind.i64.wrap ((p.s.sent.length : Int) + (p.s.waiting.length : Int)) = (p.s.sent.length : Int) + (p.s.waiting.length : Int) := IntWalk.i64_in _ (by omega)
      by_cases hz : p.s.sent.length + p.s.waiting.length = 0
      · have hk0 : ¬ (0 : Int) < (p.s.sent.length : Int) + (p.s.waiting.length : Int) := by omega
        have hk1 : ¬ 0 < p.s.sent.length + p.s.waiting.length := by omega
        go_upto_region 15 with fail
        go_quiet ((first | (go_at_call 19; exact quiet_lft (HSE.out _)) | (go_at_call 20; exact quiet_lft (HWA.out _))))
        refine post_any (fun W => PairAt w1 W P gf gg uv dv nv av p ∧ Below w.heap.size w W) ⟨HP.out.drewN _, drewN_below HW.out _⟩ ?_
        clear HP HW HSE HWA c0 c7
        rintro W5 ⟨hP, hW⟩
        have HW := Lib.hid hW; have HP := Lib.hid hP
        have hak := hI.acked
        have hau : p.acked = p.units.length := by omega
        obtain ⟨na, nc, hnv⟩ := qform hP.units
        subst hnv
        have c0 := hP.blk.cell 0; have c4 := hP.blk.cell 4; have c6 := hP.blk.cell 6; have c7 := hP.blk.cell 7
        simp only [pairCells, List.getElem?_cons_zero, List.getElem?_cons_succ] at c0 c4 c6 c7
        rw [hal] at c7
        rw [hau] at c6
        have HSE := Lib.hid (fun n => (HP.out.drewN n).sentC hwin)
        have HWA := Lib.hid (fun n => (HP.out.drewN n).waitC hwin)
        have hs0 : p.s.sent.length = 0 := by omega
        have hw0 : p.s.waiting.length = 0 := by omega
        rw [hs0] at HSE
        rw [hw0] at HWA
        clear hP hW hI hm hlen hwl hsl hz hk0 hk1 hwr hU hak
        go_upto_region 38 with fail
        go_quiet ((first | (go_at_call 19; exact quiet_lft (HSE.out _)) | (go_at_call 20; exact quiet_lft (HWA.out _))))
        refine post_any (fun W => Below w.heap.size w W) (drewN_below HW.out _) ?_
        clear HP HW HSE HWA c0 c4 c6 c7
        rintro W6 hW
        have HW := Lib.hid hW; clear hW
        go_wp2_with fail
        go_ret
        exact ⟨rfl, HW.out⟩
      · have hk0 : (0 : Int) < (p.s.sent.length : Int) + (p.s.waiting.length : Int) := by omega
        have hk1 : 0 < p.s.sent.length + p.s.waiting.length := by omega
        go_upto_region 15 with fail
        go_quiet ((first | (go_at_call 19; exact quiet_lft (HSE.out _)) | (go_at_call 20; exact quiet_lft (HWA.out _))))
        refine post_any (fun W => PairAt w1 W P gf gg uv dv nv av p) (HP.out.drewN _) ?_
        clear HP HW HSE HWA c0 c7 hk0 hz
        rintro W5 hP
        have HP := Lib.hid hP; have HI := Lib.hid hI; have HM := Lib.hid hm
        clear hP hI hm hwr hrl
        have hh : p.f.half ≠ 0 := by have := HI.out.fhalf; omega
        have hM1 : r = 0 ∨ (r ≤ 256 ∧ p.units.length + r ≤ p.acc.length + 257) := by
          have := HI.out.Nb; have := HI.out.bN; have := HI.out.len
          rcases HM.out with h | ⟨h1, h2⟩
          · exact .inl h
          · right; omega
        have HFR := Lib.hid (Free_any p.f gg W5 hh HP.out.farm)
        have c1 := HP.out.blk.cell 1
        simp only [pairCells, List.getElem?_cons_zero, List.getElem?_cons_succ] at c1
        clear hh HM hal hlen hwl hsl hwin hk1
        go_wp2_with fail
        refine HFR.out.mono ?_
        rintro e W6 ⟨rfl, hK, hB⟩
        have hP := HP.out.board hK hB
        obtain ⟨p1, hp1⟩ : ∃ q : Pr, q = { p with f := ⟨p.f.craft, p.f.half, ⟨p.f.st.chan, p.f.st.lockout, false, p.f.st.retx, p.f.st.bypd, p.f.st.next⟩⟩ } := ⟨_, rfl⟩
        have hI1 : Inv k n0 100 20 p1 [] [] b := by rw [hp1]; exact HI.out.free
        have hw1 : p1.f.st.wait = false := by rw [hp1]
        have hM2 : r = 0 ∨ (r ≤ 256 ∧ p1.units.length + r ≤ p1.acc.length + 257) := by rw [hp1]; exact hM1
        have hU1 : p1.units.length ≤ 1500 := by rw [hp1]; exact hU
        have hP1 : PairAt w1 W6 P gf gg uv dv nv av p1 := by rw [hp1]; exact hP
        have HP1 := Lib.hid hP1
        clear hP hP1 hK hB HFR c1 HP HI hM1 hp1 hU
        have HI := Lib.hid hI1; clear hI1
        obtain ⟨nw, hnw⟩ : ∃ nw, nw = wordP n0 p1 := ⟨_, rfl⟩
        have HW := Lib.hid (fun (W1 : World) hB => word_calls (gg := gg) HI.out W1 hB)
        rw [← hnw] at HW
        have hdl : p1.down.length ≤ 6000 := by rw [HI.out.hdown]; simp
        go_upto_region 18 with fail
        obtain ⟨i0, hi0, hz0, hz1, hz2⟩ := info_parts info_u32
        have x0 : ∀ W', Keep dv.ownBlock.toList W6 W' → (W'.cell? ⟨P, 3, none⟩ = some dv ∧ W'.cell? ⟨P, 1, none⟩ = some (.pointer (some ⟨gg, 0, none⟩))) := fun W' k => ⟨(HP1.out.sure (v := dv) (by simp) k).1.cell 3, (HP1.out.sure (v := dv) (by simp) k).1.cell 1⟩
        refine region_end (fun W' => Keep dv.ownBlock.toList W6 W') 14 (by kernel_rfl) ((Keep.refl _ _).drew) (fun hInv hHeld => ?_)
        have hL0 : Below W6.heap.size W6 W6.drew := (Below.refl _ _).drew
        refine WpEnd.take (i := 0) (some 85) (v := ?_) rfl rfl (by kernel_rfl) (by kernel_rfl) (by kernel_rfl) (fun _ _ _ h => h) (by kernel_rfl) hInv (by assumption) (by rfl) ?_ (fun hInv2 => ?_)
        rotate_left
        · (intro w hSw; (try dsimp only at hSw); have hSx := x0 _ hSw; go_simp; (try with_reducible rfl))
        clear hInv; have hInv := hInv2; clear hInv2
        simp only [Act.put, List.setIfInBounds_toArray, List.set_cons_zero, List.set_cons_succ]
        refine WpEnd.take (i := 1) (some 86) (v := ?_) rfl rfl (by kernel_rfl) (by kernel_rfl) (by kernel_rfl) (fun _ _ _ h => h) (by kernel_rfl) hInv (by assumption) (by rfl) ?_ (fun hInv2 => ?_)
        rotate_left
        · (intro w hSw; (try dsimp only at hSw); have hSx := x0 _ hSw; go_simp; (try with_reducible rfl))
        clear hInv; have hInv := hInv2; clear hInv2
        simp only [Act.put, List.setIfInBounds_toArray, List.set_cons_zero, List.set_cons_succ]
        refine WpEnd.take (i := 2) (some 87) (v := ?_) rfl rfl (by kernel_rfl) (by kernel_rfl) (by kernel_rfl) (fun _ _ _ h => h) (by kernel_rfl) hInv (by assumption) (by rfl) ?_ (fun hInv2 => ?_)
        rotate_left
        · (intro w hSw; (try dsimp only at hSw); have hSx := x0 _ hSw; go_simp; (try with_reducible rfl))
        clear hInv; have hInv := hInv2; clear hInv2
        simp only [Act.put, List.setIfInBounds_toArray, List.set_cons_zero, List.set_cons_succ]
        refine WpEnd.take (i := 3) (some 88) (v := ?_) rfl rfl (by kernel_rfl) (by kernel_rfl) (by kernel_rfl) (fun _ _ _ h => h) (by kernel_rfl) hInv (by assumption) (by rfl) ?_ (fun hInv2 => ?_)
        rotate_left
        · (intro w hSw; (try dsimp only at hSw); have hSx := x0 _ hSw; go_simp; (try with_reducible rfl))
        clear hInv; have hInv := hInv2; clear hInv2
        simp only [Act.put, List.setIfInBounds_toArray, List.set_cons_zero, List.set_cons_succ]
        refine WpEnd.take (i := 4) (some 89) (v := ?_) rfl rfl (by kernel_rfl) (by kernel_rfl) (by kernel_rfl) (fun _ _ _ h => h) (by kernel_rfl) hInv (by assumption) (by rfl) ?_ (fun hInv2 => ?_)
        rotate_left
        · (intro w hSw; (try dsimp only at hSw); have hSx := x0 _ hSw; go_simp; (try with_reducible rfl))
        clear hInv; have hInv := hInv2; clear hInv2
        simp only [Act.put, List.setIfInBounds_toArray, List.set_cons_zero, List.set_cons_succ]
        refine WpEnd.take (i := 5) (some 90) (v := ?_) rfl rfl (by kernel_rfl) (by kernel_rfl) (by kernel_rfl) (fun _ _ _ h => h) (by kernel_rfl) hInv (by assumption) (by rfl) ?_ (fun hInv2 => ?_)
        rotate_left
        · (intro w hSw; (try dsimp only at hSw); have hSx := x0 _ hSw; go_simp; (try with_reducible rfl))
        clear hInv; have hInv := hInv2; clear hInv2
        simp only [Act.put, List.setIfInBounds_toArray, List.set_cons_zero, List.set_cons_succ]
        refine WpEnd.take (i := 6) (some 91) (v := ?_) rfl rfl (by kernel_rfl) (by kernel_rfl) (by kernel_rfl) (fun _ _ _ h => h) (by kernel_rfl) hInv (by assumption) (by rfl) ?_ (fun hInv2 => ?_)
        rotate_left
        · (intro w hSw; (try dsimp only at hSw); have hSx := x0 _ hSw; go_simp; (try with_reducible rfl))
        clear hInv; have hInv := hInv2; clear hInv2
        simp only [Act.put, List.setIfInBounds_toArray, List.set_cons_zero, List.set_cons_succ]
        refine WpEnd.take (i := 7) (some 92) (v := ?_) rfl rfl (by kernel_rfl) (by kernel_rfl) (by kernel_rfl) (fun _ _ _ h => h) (by kernel_rfl) hInv (by assumption) (by rfl) ?_ (fun hInv2 => ?_)
        rotate_left
        · (intro w hSw; (try dsimp only at hSw); have hSx := x0 _ hSw; go_simp; (try with_reducible rfl))
        clear hInv; have hInv := hInv2; clear hInv2
        simp only [Act.put, List.setIfInBounds_toArray, List.set_cons_zero, List.set_cons_succ]
        refine WpEnd.take (i := 8) (some 93) (v := ?_) rfl rfl (by kernel_rfl) (by kernel_rfl) (by kernel_rfl) (fun _ _ _ h => h) (by kernel_rfl) hInv (by assumption) (by rfl) ?_ (fun hInv2 => ?_)
        rotate_left
        · (intro w hSw; (try dsimp only at hSw); have hSx := x0 _ hSw; go_simp; (try with_reducible rfl))
        clear hInv; have hInv := hInv2; clear hInv2
        simp only [Act.put, List.setIfInBounds_toArray, List.set_cons_zero, List.set_cons_succ]
        refine WpEnd.ready (rs := [9]) (by kernel_rfl) (by simp) ?_
        refine EachEnd.cons (some 94) rfl rfl (by decide) (by kernel_rfl) hInv (fun K hKK hKB => ?_) EachEnd.nil
        refine step_call rfl 29 #[.tmp 93] _ rfl #[.pointer (some ⟨gg, 0, none⟩)] (by kernel_rfl) (fun x V => x = .int .u32 (nw : Nat) ∧ Below (W6.drew).heap.size (W6.drew) V) ((HW.out (W6.drew) (HP1.out.below hL0).farm).mono fun e V h => ⟨_, h.1, rfl, h.2⟩) ?_
        rintro x Wc ⟨rfl, hb⟩
        replace hL0 := hL0.trans (hb.mono hL0.size)
        clear hb
        refine hKK.out _ _ ((Keep.refl _ _).below hL0 (Nat.le_refl _)) (fun hInv2 hHeld2 => ?_)
        clear hKK hKB K hInv hHeld; have hInv := hInv2; have hHeld := hHeld2; clear hInv2 hHeld2
        simp only [Act.put, List.setIfInBounds_toArray, List.set_cons_zero, List.set_cons_succ]
        refine WpEnd.ready (rs := [10]) (by kernel_rfl) (by simp) ?_
        refine EachEnd.cons (some 95) rfl rfl (by decide) (by kernel_rfl) hInv (fun K hKK hKB => ?_) EachEnd.nil
        refine step_build_1 22 38 (u32Row [nw]) rfl _ rfl _ rfl (build_w1 _ nw) ?_
        have hL1 := hL0.alloc hL0.size (Obj.cells (u32Row [nw]).toArray 38)
        have hy1 := Blk.new Wc (u32Row [nw]) 38
        obtain ⟨nb, hnb⟩ : ∃ nb, nb = (Wc).heap.size := ⟨_, rfl⟩
        rw [← hnb] at hy1 ⊢
        obtain ⟨Wb, hWb⟩ : ∃ Wb, Wb = (Wc).alloc (Obj.cells (u32Row [nw]).toArray 38) := ⟨_, rfl⟩
        rw [← hWb] at hL1 hy1 ⊢
        refine hKK.out _ _ ((Keep.refl _ _).below hL1 (Nat.le_refl _)) (fun hInv2 hHeld2 => ?_)
        clear hKK hKB K hWb hnb hInv hHeld; have hInv := hInv2; have hHeld := hHeld2; clear hInv2 hHeld2
        simp only [Act.put, List.setIfInBounds_toArray, List.set_cons_zero, List.set_cons_succ]
        refine WpEnd.ready (rs := [11]) (by kernel_rfl) (by simp) ?_
        refine EachEnd.cons (some 96) rfl rfl (by decide) (by kernel_rfl) hInv (fun K hKK hKB => ?_) EachEnd.nil
        refine step_append_q 22 38 1 4 i0 (.int .u32 0) rfl _ _ rfl Try.underlying22 hi0 hz0 rfl hz1 hz2 0 dv p1.down.length _ rfl (q_below HP1.out.down hL1 (Nat.le_refl _)) nb 0 1 1 (u32Row [nw]) rfl rfl (u32Row_one _) (fun j u hj => by rw [Nat.zero_add]; exact (hy1.cell j).trans hj) (by omega) (by unfold maxLen; omega) (Nat.zero_le _) ?_
        intro v' Wd hq2 hk2 hm2
        refine hKK.out _ _ (((Keep.refl _ _).below hL1 (Nat.le_refl _)).trans hk2) (fun hInv2 hHeld2 => ?_)
        clear hKK hKB K hInv hHeld; have hInv := hInv2; have hHeld := hHeld2; clear hInv2 hHeld2
        simp only [Act.put, List.setIfInBounds_toArray, List.set_cons_zero, List.set_cons_succ]
        refine WpEnd.take (i := 12) (some 97) (v := ?_) rfl rfl (by kernel_rfl) (by kernel_rfl) (by kernel_rfl) (fun _ _ _ h => h) (by kernel_rfl) hInv (by assumption) (by rfl) ?_ (fun hInv2 => ?_)
        rotate_left
        · (intro w hSw; (try dsimp only at hSw); have hSx := x0 _ hSw; go_simp; (try with_reducible rfl))
        clear hInv; have hInv := hInv2; clear hInv2
        simp only [Act.put, List.setIfInBounds_toArray, List.set_cons_zero, List.set_cons_succ]
        refine WpEnd.take (i := 13) (some 98) (v := ?_) rfl rfl (by kernel_rfl) (by kernel_rfl) (by kernel_rfl) (fun _ _ _ h => h) (by kernel_rfl) hInv (by assumption) (by rfl) ?_ (fun hInv2 => ?_)
        rotate_left
        · (intro w hSw; (try dsimp only at hSw); have hSx := x0 _ hSw; go_simp; (try with_reducible rfl))
        clear hInv; have hInv := hInv2; clear hInv2
        simp only [Act.put, List.setIfInBounds_toArray, List.set_cons_zero, List.set_cons_succ]
        refine WpEnd.ready (rs := [14]) (by kernel_rfl) (by simp) ?_
        refine EachEnd.last rfl (fun K hKK => ?_)
        have c0 := (HP1.out.sure (v := dv) (by simp) hHeld).1.cell 3
        have f0 := (HP1.out.sure (v := dv) (by simp) hHeld).1.free 3
        simp only [pairCells, List.getElem?_cons_zero, List.getElem?_cons_succ] at c0
        have hP3 := HP1.out.pushDown (l := (p1.down ++ [nw])) hL1 hk2 hm2 (by simp only [List.length_append, List.length_singleton, u32Row_app]; exact hq2)
        obtain ⟨ra, rc, hve⟩ := qform hq2
        subst hve
        go_simp
        refine hKK.out _ _ ?_
        clear hKK K
        refine WpEnd.done (by kernel_rfl) ?_ _
        refine post_any (fun W' => PairAt w1 W' P gf gg uv (.slice ra (p1.down.length + 1) rc) nv av { p1 with down := (p1.down ++ [nw]) }) hP3 ?_
        clear hP3  hm2 hq2 hk2 hy1 hL1 hL0 hHeld hInv c0 f0 x0 hi0 hz0 hz1 hz2 i0 HW hdl
        rintro W7 hP7
        have hP7b : PairAt w1 W7 P gf gg uv (.slice ra (p1.down.length + 1) rc) nv av (toldP n0 p1) := by rw [hnw] at hP7; exact hP7
        have HHR := Lib.hid (hear_some (x := wordD p1) (ds := []) HI.out.told (by show p1.units.length ≤ 1000000; omega) (by simp) hP7b)
        obtain ⟨hI2, hh2, hs2, hq2⟩ := HI.out.heard
        clear hP7 hP7b HP1 hnw
        go_wp2_with fail
        refine HHR.out.mono ?_
        rintro e W8 ⟨rfl, dv2, hP8⟩
        obtain ⟨b2, hb2⟩ : ∃ b2, b2 = p1.acc.length := ⟨_, rfl⟩
        obtain ⟨p2, hp2⟩ : ∃ q : Pr, q = heardP n0 b p1 := ⟨_, rfl⟩
        have hP8b : PairAt w1 W8 P gf gg uv dv2 nv av p2 := by rw [hp2]; exact hP8
        have hb22 : p2.acc.length = b2 := by rw [hp2, hb2]; rfl
        have hU2 : p2.units.length = p1.units.length := by rw [hp2]; rfl
        have hw2 : p2.f.st.wait = false := by rw [hp2]; exact hw1
        rw [← hp2, ← hb2] at hI2
        rw [← hp2, hw1] at hh2
        have hM3 : r = 0 ∨ (r ≤ 256 ∧ p2.units.length + r ≤ b2 + 257) := by rw [hU2, hb2]; exact hM2
        have hU3 : p2.units.length ≤ 1500 := by omega
        have HTO := Lib.hid (hI2.expire hb22 hh2 hw2)
        have HT := Lib.hid (fun S1 (W1 : World) h => tick_calls (gf := gf) hI2 20 (by decide) (by decide) S1 W1 h)
        have hal := hI2.al; have hak := hI2.acked; have hbN := hI2.bN; have hau := hI2.au
        have c0 := hP8b.blk.cell 0; have c7 := hP8b.blk.cell 7
        simp only [pairCells, List.getElem?_cons_zero, List.getElem?_cons_succ] at c0 c7
        rw [hal] at c7
        have HP := Lib.hid hP8b
        clear hP8 hP8b HHR hs2 hq2 hp2 hb2 hM2 hU1 hU2 hw1 HI hh2 hw2 hI2
        go_wp2_with fail
        obtain ⟨S1, hI, hlt, hgv⟩ := HP.out.fop.callG
        refine (HT.out S1 _ hI).mono ?_
        obtain ⟨X, hX⟩ : ∃ X, X = tickF p2.s 20 := ⟨_, rfl⟩
        rw [← hX] at HTO ⊢
        rintro e W9 ⟨v, S2, rfl, hP, hG⟩
        obtain ⟨hX, hQ, hR, hF⟩ := hgv hP hG
        have hP2 : PairAt w1 W9 P gf gg uv dv2 nv av { p2 with s := X.1 } := HP.out.call hX hR
        have hFP : v.ownBlock ≠ some P := hF P (in_blocks (v := bv P) (by simp) rfl)
        obtain ⟨aa, ac, hav⟩ := qform hP2.acc
        subst hav
        have HQ := Lib.hid hQ; have HP2 := Lib.hid hP2; have HFP := Lib.hid hFP
        clear hI hlt hgv hP hG hX hQ hR hF hP2 hFP HP c0 c7 HT
        obtain ⟨s', l⟩ := X
        simp only at HTO HQ HP2
        go_wp2_with fail
        rcases HTO.out with ⟨hl, hD, -, -⟩ | hl
        · change l = _ at hl
          subst hl
          clear HTO
          refine (events_acks P gf gg uv dv2 nv aa ac { p2 with s := s' } b2 0 v W9 hak (by show b2 + 0 ≤ p2.acc.length; omega) (by show p2.acc.length ≤ 1000000; omega) HP2.out.blk HQ.out HFP.out).mono ?_
          rintro e W10 ⟨rfl, hK, hB⟩
          have hP3 := HP2.out.nums (a := b2 + 0) (l := p2.alert) hK hB
          have hP3b : PairAt w1 W10 P gf gg uv dv2 nv (.slice aa p2.acc.length ac) { p2 with s := s' } := by
            have := acked_eta p2 b2 hak s'
            rw [← this]; exact hP3
          obtain ⟨p3, hp3⟩ : ∃ q : Pr, q = { p2 with s := s' } := ⟨_, rfl⟩
          have hD3 : Due k n0 100 20 p3 [] 0 b2 := by rw [hp3]; exact hD
          have hU3b : p3.units.length = p2.units.length := by rw [hp3]
          obtain ⟨U, hUe⟩ : ∃ U, U = p2.units.length := ⟨_, rfl⟩
          rw [← hUe] at hU3b hM3 hU3
          rw [← hp3] at hP3b
          obtain ⟨av3, hav3⟩ : ∃ v : Value, v = .slice aa p2.acc.length ac := ⟨_, rfl⟩
          rw [← hav3] at hP3b
          have c7 := hP3b.blk.cell 7
          simp only [pairCells, List.getElem?_cons_zero, List.getElem?_cons_succ] at c7
          rw [hD3.inv.al] at c7
          have HP := Lib.hid hP3b; have HD := Lib.hid hD3
          clear hK hB hP3 hP3b hD3 hD HP2 HQ HFP hp3 hav3 hUe hal hak hbN hau hb22
          go_wp2_with fail
          go_loopw [13] (fun iv wr => ∃ (kk : Nat) (uv' : Value) (ns : List (Option Nat)) (j : Nat) (q : Pr), iv = .int .i64 kk ∧ PairAt w1 wr P gf gg uv' dv2 nv av3 q ∧ Due k n0 100 20 q ns j b2 ∧ kk = ns.length + j ∧ q.units.length = U) (fun iv _ => 1000 - (intOf iv).toNat)
          case atStart => exact ⟨0, uv, [], 0, p3, rfl, HP.out, HD.out, rfl, hU3b⟩
          case round =>
            clear HP HD c7 hU3b
            obtain ⟨kk, uv', ns, j, q, rfl, hPq, hDq, hkk, hUq⟩ := hrel
            have hkl : (kk : Int) < 1000 := by have := hDq.cnt; have := hDq.jl; have := hDq.inv.sl; omega
            have hkl2 : kk < 1000 := by omega
            have c0 := hPq.blk.cell 0
            simp only [pairCells, List.getElem?_cons_zero, List.getElem?_cons_succ] at c0
            have HP := Lib.hid hPq; have HD := Lib.hid hDq; have HKK := Lib.hid hkk; have HUQ := Lib.hid hUq
            clear hPq hDq hkk hUq
            go_wp2_with fail
            obtain ⟨S1, hI, hlt, hnx, hgv⟩ := HP.out.fop.call
            have hN := Next_all q.s gf S1 _ HD.out.inv.fine hlt hI
            rcases HD.out.step with ⟨he, hj, hwq⟩ | ⟨x, ns', j', hx, hD', hcnt⟩
            · rw [he] at hN
              refine hN.mono ?_
              rintro e W12 ⟨rfl, hT⟩
              obtain ⟨hX, hR⟩ := hnx hT
              have hPq : PairAt w1 (W12.alloc (Obj.cells #[.int .i64 0, .int .i64 0, .bool false, .bool false, .int .i64 0, .string ⟨#[]⟩] 31)) P gf gg uv' dv2 nv av3 q := (HP.out.call hX hR).below ((Below.refl _ _).alloc (Nat.le_refl _) (Obj.cells #[.int .i64 0, .int .i64 0, .bool false, .bool false, .int .i64 0, .string ⟨#[]⟩] 31))
              have hA0 := HD.out.done hj
              have hkk := HKK.out; have hUq := HUQ.out
              have HWL := Lib.hid (show q.s.waiting.length ≤ 256 ∧ b2 + q.s.sent.length + q.s.waiting.length = U ∧ (q.s.waiting.length = 0 ∨ q.s.sent.length = k) from ⟨HD.out.inv.wl, by have := HD.out.inv.len; omega, by
                rcases hwq with h | h
                · left; rw [h]; rfl
                · exact .inr h⟩)
              have HBY := Lib.hid (show ns.length + j ≤ 1000 by omega)
              have HP2 := Lib.hid hPq; have HA := Lib.hid hA0
              clear hI hlt hnx hgv hX hR hT hN hPq hA0 hwq HP HD c0 he hkk hUq hj
              simp only [tcV, Option.isSome]
              go_wp2_with fail
              go_loopw [163] (fun _ wr => ∃ (uv1 av1 : Value) (ns1 : List (Option Nat)) (i1 : Nat) (q1 : Pr), PairAt w1 wr P gf gg uv1 dv2 nv av1 q1 ∧ Arr k n0 100 20 q1 ns1 i1 j b2 ∧ q1.s = q.s ∧ q1.units.length = U ∧ ns1.length + (j - i1) ≤ 1000) (fun _ wr => upLen P wr)
              case atStart => exact ⟨_, _, _, _, _, HP2.out, HA.out, rfl, HUQ.out, by have := HBY.out; omega⟩
              case round =>
                clear HP2 HA HBY
                obtain ⟨uv1, av1, ns1, i1, q1, hP1, hA1, hs1, hU1, hn1⟩ := hrel
                obtain ⟨ua, uc, huv⟩ := qform hP1.up
                subst huv
                have c2 := hP1.blk.cell 2
                simp only [pairCells, List.getElem?_cons_zero, List.getElem?_cons_succ] at c2
                have HS1 := Lib.hid hs1; have HU1 := Lib.hid hU1
                clear hs1 hU1
                cases hup : q1.up with
                | cons x l =>
                  rw [hup, List.length_cons] at c2
                  have kz : (0 : Int) < (l.length : Int) + 1 := by omega
                  have kz2 : 0 < l.length + 1 := by omega
                  have hI1 := hA1.inv
                  have hul : (ns1 ++ idx b2 i1 (j - i1)).length ≤ 1000000 := by rw [List.length_append, idx_len]; omega
                  have HAR := Lib.hid (arrive_one hI1 (by have := HU1.out; omega) hul x l hup true hP1)
                  obtain ⟨ns2, i2, hA2, hn2⟩ := hA1.step x l hup
                  have HA2 := Lib.hid hA2; have HN2 := Lib.hid hn2; have HUP := Lib.hid hup
                  have hUL := hP1.upLen
                  rw [hup, List.length_cons] at hUL
                  have HUL := Lib.hid hUL
                  clear hP1 hA1 hA2 hI1 hul hUL hn2 hup
                  go_wp2_with fail
                  refine HAR.out.mono ?_
                  rintro e W13 ⟨rfl, uv2, av2, hP2⟩
                  have HP2 := Lib.hid hP2
                  clear hP2 HAR c2
                  go_wp2_with fail
                  go_roundw
                  case rel =>
                    exact ⟨_, _, _, _, _, HP2.out, HA2.out, HS1.out, HU1.out, by have := HN2.out; omega⟩
                  case measure =>
                    have h1 := HP2.out.upLen
                    have h2 := HUL.out
                    have h3 : (arriveP q1 x l true).up.length = l.length := rfl
                    show upLen P W13 < upLen P _
                    omega
                | nil =>
                  rw [hup] at c2
                  have hdn := hA1.done hup
                  obtain ⟨hI1, hac, hwt⟩ := hdn
                  have HP1 := Lib.hid hP1
                  have HI := Lib.hid hI1
                  clear hA1 hP1 hI1
                  have hs1 := HS1.out; have hU1 := HU1.out
                  rw [hs1] at hac
                  have hU4 : q1.units.length ≤ 1500 := by omega
                  have HAC := Lib.hid hac; have HUP := Lib.hid hup
                  clear hac hs1 hU1 hup
                  obtain ⟨nw, hnw⟩ : ∃ nw, nw = wordP n0 q1 := ⟨_, rfl⟩
                  have HW := Lib.hid (fun (W1 : World) hB => word_calls (gg := gg) HI.out W1 hB)
                  rw [← hnw] at HW
                  have hdl : q1.down.length ≤ 6000 := by rw [HI.out.hdown]; simp
                  go_upto_region 35 with fail
                  obtain ⟨i0, hi0, hz0, hz1, hz2⟩ := info_parts info_u32
                  have x0 : ∀ W', Keep dv2.ownBlock.toList wr W' → (W'.cell? ⟨P, 3, none⟩ = some dv2 ∧ W'.cell? ⟨P, 1, none⟩ = some (.pointer (some ⟨gg, 0, none⟩))) := fun W' k => ⟨(HP1.out.sure (v := dv2) (by simp) k).1.cell 3, (HP1.out.sure (v := dv2) (by simp) k).1.cell 1⟩
                  refine region_end (fun W' => Keep dv2.ownBlock.toList wr W') 14 (by kernel_rfl) ((Keep.refl _ _).drew) (fun hInv hHeld => ?_)
                  have hL0 : Below wr.heap.size wr wr.drew := (Below.refl _ _).drew
                  refine WpEnd.take (i := 0) (some 168) (v := ?_) rfl rfl (by kernel_rfl) (by kernel_rfl) (by kernel_rfl) (fun _ _ _ h => h) (by kernel_rfl) hInv (by assumption) (by rfl) ?_ (fun hInv2 => ?_)
                  rotate_left
                  · (intro w hSw; (try dsimp only at hSw); have hSx := x0 _ hSw; go_simp; (try with_reducible rfl))
                  clear hInv; have hInv := hInv2; clear hInv2
                  simp only [Act.put, List.setIfInBounds_toArray, List.set_cons_zero, List.set_cons_succ]
                  refine WpEnd.take (i := 1) (some 169) (v := ?_) rfl rfl (by kernel_rfl) (by kernel_rfl) (by kernel_rfl) (fun _ _ _ h => h) (by kernel_rfl) hInv (by assumption) (by rfl) ?_ (fun hInv2 => ?_)
                  rotate_left
                  · (intro w hSw; (try dsimp only at hSw); have hSx := x0 _ hSw; go_simp; (try with_reducible rfl))
                  clear hInv; have hInv := hInv2; clear hInv2
                  simp only [Act.put, List.setIfInBounds_toArray, List.set_cons_zero, List.set_cons_succ]
                  refine WpEnd.take (i := 2) (some 170) (v := ?_) rfl rfl (by kernel_rfl) (by kernel_rfl) (by kernel_rfl) (fun _ _ _ h => h) (by kernel_rfl) hInv (by assumption) (by rfl) ?_ (fun hInv2 => ?_)
                  rotate_left
                  · (intro w hSw; (try dsimp only at hSw); have hSx := x0 _ hSw; go_simp; (try with_reducible rfl))
                  clear hInv; have hInv := hInv2; clear hInv2
                  simp only [Act.put, List.setIfInBounds_toArray, List.set_cons_zero, List.set_cons_succ]
                  refine WpEnd.take (i := 3) (some 171) (v := ?_) rfl rfl (by kernel_rfl) (by kernel_rfl) (by kernel_rfl) (fun _ _ _ h => h) (by kernel_rfl) hInv (by assumption) (by rfl) ?_ (fun hInv2 => ?_)
                  rotate_left
                  · (intro w hSw; (try dsimp only at hSw); have hSx := x0 _ hSw; go_simp; (try with_reducible rfl))
                  clear hInv; have hInv := hInv2; clear hInv2
                  simp only [Act.put, List.setIfInBounds_toArray, List.set_cons_zero, List.set_cons_succ]
                  refine WpEnd.take (i := 4) (some 172) (v := ?_) rfl rfl (by kernel_rfl) (by kernel_rfl) (by kernel_rfl) (fun _ _ _ h => h) (by kernel_rfl) hInv (by assumption) (by rfl) ?_ (fun hInv2 => ?_)
                  rotate_left
                  · (intro w hSw; (try dsimp only at hSw); have hSx := x0 _ hSw; go_simp; (try with_reducible rfl))
                  clear hInv; have hInv := hInv2; clear hInv2
                  simp only [Act.put, List.setIfInBounds_toArray, List.set_cons_zero, List.set_cons_succ]
                  refine WpEnd.take (i := 5) (some 173) (v := ?_) rfl rfl (by kernel_rfl) (by kernel_rfl) (by kernel_rfl) (fun _ _ _ h => h) (by kernel_rfl) hInv (by assumption) (by rfl) ?_ (fun hInv2 => ?_)
                  rotate_left
                  · (intro w hSw; (try dsimp only at hSw); have hSx := x0 _ hSw; go_simp; (try with_reducible rfl))
                  clear hInv; have hInv := hInv2; clear hInv2
                  simp only [Act.put, List.setIfInBounds_toArray, List.set_cons_zero, List.set_cons_succ]
                  refine WpEnd.take (i := 6) (some 174) (v := ?_) rfl rfl (by kernel_rfl) (by kernel_rfl) (by kernel_rfl) (fun _ _ _ h => h) (by kernel_rfl) hInv (by assumption) (by rfl) ?_ (fun hInv2 => ?_)
                  rotate_left
                  · (intro w hSw; (try dsimp only at hSw); have hSx := x0 _ hSw; go_simp; (try with_reducible rfl))
                  clear hInv; have hInv := hInv2; clear hInv2
                  simp only [Act.put, List.setIfInBounds_toArray, List.set_cons_zero, List.set_cons_succ]
                  refine WpEnd.take (i := 7) (some 175) (v := ?_) rfl rfl (by kernel_rfl) (by kernel_rfl) (by kernel_rfl) (fun _ _ _ h => h) (by kernel_rfl) hInv (by assumption) (by rfl) ?_ (fun hInv2 => ?_)
                  rotate_left
                  · (intro w hSw; (try dsimp only at hSw); have hSx := x0 _ hSw; go_simp; (try with_reducible rfl))
                  clear hInv; have hInv := hInv2; clear hInv2
                  simp only [Act.put, List.setIfInBounds_toArray, List.set_cons_zero, List.set_cons_succ]
                  refine WpEnd.take (i := 8) (some 176) (v := ?_) rfl rfl (by kernel_rfl) (by kernel_rfl) (by kernel_rfl) (fun _ _ _ h => h) (by kernel_rfl) hInv (by assumption) (by rfl) ?_ (fun hInv2 => ?_)
                  rotate_left
                  · (intro w hSw; (try dsimp only at hSw); have hSx := x0 _ hSw; go_simp; (try with_reducible rfl))
                  clear hInv; have hInv := hInv2; clear hInv2
                  simp only [Act.put, List.setIfInBounds_toArray, List.set_cons_zero, List.set_cons_succ]
                  refine WpEnd.ready (rs := [9]) (by kernel_rfl) (by simp) ?_
                  refine EachEnd.cons (some 177) rfl rfl (by decide) (by kernel_rfl) hInv (fun K hKK hKB => ?_) EachEnd.nil
                  refine step_call rfl 29 #[.tmp 176] _ rfl #[.pointer (some ⟨gg, 0, none⟩)] (by kernel_rfl) (fun x V => x = .int .u32 (nw : Nat) ∧ Below (wr.drew).heap.size (wr.drew) V) ((HW.out (wr.drew) (HP1.out.below hL0).farm).mono fun e V h => ⟨_, h.1, rfl, h.2⟩) ?_
                  rintro x Wc ⟨rfl, hb⟩
                  replace hL0 := hL0.trans (hb.mono hL0.size)
                  clear hb
                  refine hKK.out _ _ ((Keep.refl _ _).below hL0 (Nat.le_refl _)) (fun hInv2 hHeld2 => ?_)
                  clear hKK hKB K hInv hHeld; have hInv := hInv2; have hHeld := hHeld2; clear hInv2 hHeld2
                  simp only [Act.put, List.setIfInBounds_toArray, List.set_cons_zero, List.set_cons_succ]
                  refine WpEnd.ready (rs := [10]) (by kernel_rfl) (by simp) ?_
                  refine EachEnd.cons (some 178) rfl rfl (by decide) (by kernel_rfl) hInv (fun K hKK hKB => ?_) EachEnd.nil
                  refine step_build_1 22 38 (u32Row [nw]) rfl _ rfl _ rfl (build_w1 _ nw) ?_
                  have hL1 := hL0.alloc hL0.size (Obj.cells (u32Row [nw]).toArray 38)
                  have hy1 := Blk.new Wc (u32Row [nw]) 38
                  obtain ⟨nb, hnb⟩ : ∃ nb, nb = (Wc).heap.size := ⟨_, rfl⟩
                  rw [← hnb] at hy1 ⊢
                  obtain ⟨Wb, hWb⟩ : ∃ Wb, Wb = (Wc).alloc (Obj.cells (u32Row [nw]).toArray 38) := ⟨_, rfl⟩
                  rw [← hWb] at hL1 hy1 ⊢
                  refine hKK.out _ _ ((Keep.refl _ _).below hL1 (Nat.le_refl _)) (fun hInv2 hHeld2 => ?_)
                  clear hKK hKB K hWb hnb hInv hHeld; have hInv := hInv2; have hHeld := hHeld2; clear hInv2 hHeld2
                  simp only [Act.put, List.setIfInBounds_toArray, List.set_cons_zero, List.set_cons_succ]
                  refine WpEnd.ready (rs := [11]) (by kernel_rfl) (by simp) ?_
                  refine EachEnd.cons (some 179) rfl rfl (by decide) (by kernel_rfl) hInv (fun K hKK hKB => ?_) EachEnd.nil
                  refine step_append_q 22 38 1 4 i0 (.int .u32 0) rfl _ _ rfl Try.underlying22 hi0 hz0 rfl hz1 hz2 0 dv2 q1.down.length _ rfl (q_below HP1.out.down hL1 (Nat.le_refl _)) nb 0 1 1 (u32Row [nw]) rfl rfl (u32Row_one _) (fun j u hj => by rw [Nat.zero_add]; exact (hy1.cell j).trans hj) (by omega) (by unfold maxLen; omega) (Nat.zero_le _) ?_
                  intro v' Wd hq2 hk2 hm2
                  refine hKK.out _ _ (((Keep.refl _ _).below hL1 (Nat.le_refl _)).trans hk2) (fun hInv2 hHeld2 => ?_)
                  clear hKK hKB K hInv hHeld; have hInv := hInv2; have hHeld := hHeld2; clear hInv2 hHeld2
                  simp only [Act.put, List.setIfInBounds_toArray, List.set_cons_zero, List.set_cons_succ]
                  refine WpEnd.take (i := 12) (some 180) (v := ?_) rfl rfl (by kernel_rfl) (by kernel_rfl) (by kernel_rfl) (fun _ _ _ h => h) (by kernel_rfl) hInv (by assumption) (by rfl) ?_ (fun hInv2 => ?_)
                  rotate_left
                  · (intro w hSw; (try dsimp only at hSw); have hSx := x0 _ hSw; go_simp; (try with_reducible rfl))
                  clear hInv; have hInv := hInv2; clear hInv2
                  simp only [Act.put, List.setIfInBounds_toArray, List.set_cons_zero, List.set_cons_succ]
                  refine WpEnd.take (i := 13) (some 181) (v := ?_) rfl rfl (by kernel_rfl) (by kernel_rfl) (by kernel_rfl) (fun _ _ _ h => h) (by kernel_rfl) hInv (by assumption) (by rfl) ?_ (fun hInv2 => ?_)
                  rotate_left
                  · (intro w hSw; (try dsimp only at hSw); have hSx := x0 _ hSw; go_simp; (try with_reducible rfl))
                  clear hInv; have hInv := hInv2; clear hInv2
                  simp only [Act.put, List.setIfInBounds_toArray, List.set_cons_zero, List.set_cons_succ]
                  refine WpEnd.ready (rs := [14]) (by kernel_rfl) (by simp) ?_
                  refine EachEnd.last rfl (fun K hKK => ?_)
                  have c0 := (HP1.out.sure (v := dv2) (by simp) hHeld).1.cell 3
                  have f0 := (HP1.out.sure (v := dv2) (by simp) hHeld).1.free 3
                  simp only [pairCells, List.getElem?_cons_zero, List.getElem?_cons_succ] at c0
                  have hP3 := HP1.out.pushDown (l := (q1.down ++ [nw])) hL1 hk2 hm2 (by simp only [List.length_append, List.length_singleton, u32Row_app]; exact hq2)
                  obtain ⟨ra, rc, hve⟩ := qform hq2
                  subst hve
                  go_simp
                  refine hKK.out _ _ ?_
                  clear hKK K
                  refine WpEnd.done (by kernel_rfl) ?_ _
                  refine post_any (fun W' => PairAt w1 W' P gf gg (.slice ua q1.up.length uc) (.slice ra (q1.down.length + 1) rc) nv av1 { q1 with down := (q1.down ++ [nw]) }) hP3 ?_
                  clear hP3  hm2 hq2 hk2 hy1 hL1 hL0 hHeld hInv c0 f0 x0 hi0 hz0 hz1 hz2 i0 HW hdl
                  rintro W17 hP17
                  have hP7b : PairAt w1 W17 P gf gg (.slice ua q1.up.length uc) (.slice ra (q1.down.length + 1) rc) nv av1 (toldP n0 q1) := by rw [hnw] at hP17; exact hP17
                  have HHR := Lib.hid (hear_some (x := wordD q1) (ds := []) HI.out.told (by show q1.units.length ≤ 1000000; omega) (by simp) hP7b)
                  obtain ⟨hI2, hh2, hs2, hq2⟩ := HI.out.heard
                  have HI2 := Lib.hid hI2; have HS2 := Lib.hid hs2; have HQ2 := Lib.hid hq2
                  clear hP17 hP7b HP1 hnw c2 hh2 hI2 hs2 hq2
                  go_wp2_with fail
                  refine HHR.out.mono ?_
                  rintro e W18 ⟨rfl, dv3, hP8⟩
                  have hP8b : PairAt w1 W18 P gf gg (.slice ua q1.up.length uc) dv3 nv av1 (heardP n0 b2 q1) := hP8
                  have hI2 := HI2.out; have hs2 := HS2.out; have hq2 := HQ2.out; have hac := HAC.out; have hs1 := HS1.out; have hU1 := HU1.out
                  have hsz : (heardP n0 b2 q1).s.sent.length = 0 := by rw [hs2, hs1]; omega
                  have hl5 := hI2.len
                  have hu5 : (heardP n0 b2 q1).units.length = U := hU1
                  rw [hsz, hq2, hs1, hu5] at hl5
                  have hRest : Rest k n0 (r + 1) (heardP n0 b2 q1) := by
                    refine .inr ⟨_, hI2, by omega, .inr ⟨hsz, ?_⟩⟩
                    rw [hq2, hs1]
                    obtain ⟨g1, g2, g3⟩ := HWL.out
                    have := hk
                    rcases hM3 with h | ⟨h1, h2⟩
                    · omega
                    · rcases g3 with g3 | g3 <;> omega
                  have hwin : (heardP n0 b2 q1).s.window ≠ 0 := by rw [hI2.win]; omega
                  have HSE := Lib.hid (hP8b.sentC hwin)
                  rw [hsz] at HSE
                  have c0 := hP8b.blk.cell 0; have c7 := hP8b.blk.cell 7
                  simp only [pairCells, List.getElem?_cons_zero, List.getElem?_cons_succ] at c0 c7
                  rw [hI2.al] at c7
                  have HP := Lib.hid hP8b; have HRS := Lib.hid hRest
                  clear hP8 hP8b HHR hs2 hq2 hsz hl5 hu5 hRest hwin hI2 HI hac hwt hs1 hU1 HI2 HS2 HQ2
                  go_wp2_with fail
                  refine HSE.out.mono ?_
                  rintro e _ ⟨rfl, rfl⟩
                  clear HSE c0 c7
                  go_wp2_with fail
                  go_roundw
                  case rel => exact ⟨r + 1, by go_num, _, _, _, _, _, HP.out, HRS.out, by omega⟩
                  case measure => simp [intOf]; omega
            · obtain ⟨cr, chn, by_, ck, sq, d⟩ := x
              rw [hx] at hN
              refine hN.mono ?_
              rintro e W12 ⟨rfl, hT⟩
              obtain ⟨hX, hR⟩ := hnx hT
              have hPz := HP.out.call hX hR
              obtain ⟨s2, hs2⟩ : ∃ s2, s2 = (nextF q.s).1 := ⟨_, rfl⟩
              rw [← hs2] at hPz hD'
              have hPy := hPz.below ((Below.refl _ _).alloc (Nat.le_refl _) (Obj.cells #[.int .i64 cr, .int .i64 chn, .bool by_, .bool ck, .int .i64 sq, .string d] 31))
              obtain ⟨r1, hr1⟩ : ∃ r1, r1 = W12.heap.size := ⟨_, rfl⟩
              have hXb := Blk.new W12 [.int .i64 cr, .int .i64 chn, .bool by_, .bool ck, .int .i64 sq, .string d] 31
              rw [← hr1] at hXb
              have hlt2 := hPz.fop.lt
              rw [← hr1] at hlt2
              have hru : r1 ∉ uv'.ownBlock.toList := fun hm => by have := (hlt2 r1 (in_blocks (v := uv') (by simp) (by simpa using hm))).2; omega
              have HPZ := Lib.hid hPy; have HX := Lib.hid hXb
              have hql : q.up.length ≤ 6000 := by rw [HD.out.inv.hup, List.length_map, List.length_append, idx_len]; have := HD.out.cnt; have := HD.out.jl; have := HD.out.inv.sl; omega
              have HD2 := Lib.hid hD'; have HCN := Lib.hid hcnt
              clear hI hlt hnx hgv hX hR hT hN hPz hPy hXb hlt2 HP HD c0 hs2 hx hD' hcnt
              simp only [tcV, Option.isSome]
              go_upto_region 31 with fail
              rw [← hr1]
              refine gen_world (fun W => PairAt w1 W P gf gg uv' dv2 nv av3 { q with s := s2 } ∧ Blk W r1 [.int .i64 cr, .int .i64 chn, .bool by_, .bool ck, .int .i64 sq, .string d] 31) ⟨HPZ.out, HX.out⟩ ?_
              clear HPZ HX hr1
              rintro W13 ⟨hPz, hXb⟩
              have HPZ := Lib.hid hPz; have HX := Lib.hid hXb
              clear hPz hXb
              obtain ⟨i0, hi0, hz0, hz1, hz2⟩ := info_parts info_tc
              have x0 : ∀ W', Keep uv'.ownBlock.toList W13 W' → (W'.cell? ⟨P, 2, none⟩ = some uv' ∧ W'.cell? ⟨r1, 0, none⟩ = some (.int .i64 cr) ∧ W'.cell? ⟨r1, 1, none⟩ = some (.int .i64 chn) ∧ W'.cell? ⟨r1, 2, none⟩ = some (.bool by_) ∧ W'.cell? ⟨r1, 3, none⟩ = some (.bool ck) ∧ W'.cell? ⟨r1, 4, none⟩ = some (.int .i64 sq) ∧ W'.cell? ⟨r1, 5, none⟩ = some (.string d)) := fun W' k => ⟨(HPZ.out.sure (v := uv') (by simp) k).1.cell 2, (HX.out.keep k hru).cell 0, (HX.out.keep k hru).cell 1, (HX.out.keep k hru).cell 2, (HX.out.keep k hru).cell 3, (HX.out.keep k hru).cell 4, (HX.out.keep k hru).cell 5⟩
              refine region_end (fun W' => Keep uv'.ownBlock.toList W13 W') 10 (by kernel_rfl) ((Keep.refl _ _).drew) (fun hInv hHeld => ?_)
              have hL0 : Below W13.heap.size W13 W13.drew := (Below.refl _ _).drew
              refine WpEnd.take (i := 0) (some 149) (v := ?_) rfl rfl (by kernel_rfl) (by kernel_rfl) (by kernel_rfl) (fun _ _ _ h => h) (by kernel_rfl) hInv (by assumption) (by rfl) ?_ (fun hInv2 => ?_)
              rotate_left
              · (intro w hSw; (try dsimp only at hSw); have hSx := x0 _ hSw; go_simp; (try with_reducible rfl))
              clear hInv; have hInv := hInv2; clear hInv2
              simp only [Act.put, List.setIfInBounds_toArray, List.set_cons_zero, List.set_cons_succ]
              refine WpEnd.take (i := 1) (some 150) (v := ?_) rfl rfl (by kernel_rfl) (by kernel_rfl) (by kernel_rfl) (fun _ _ _ h => h) (by kernel_rfl) hInv (by assumption) (by rfl) ?_ (fun hInv2 => ?_)
              rotate_left
              · (intro w hSw; (try dsimp only at hSw); have hSx := x0 _ hSw; go_simp; (try with_reducible rfl))
              clear hInv; have hInv := hInv2; clear hInv2
              simp only [Act.put, List.setIfInBounds_toArray, List.set_cons_zero, List.set_cons_succ]
              refine WpEnd.take (i := 2) (some 151) (v := ?_) rfl rfl (by kernel_rfl) (by kernel_rfl) (by kernel_rfl) (fun _ _ _ h => h) (by kernel_rfl) hInv (by assumption) (by rfl) ?_ (fun hInv2 => ?_)
              rotate_left
              · (intro w hSw; (try dsimp only at hSw); have hSx := x0 _ hSw; go_simp; (try with_reducible rfl))
              clear hInv; have hInv := hInv2; clear hInv2
              simp only [Act.put, List.setIfInBounds_toArray, List.set_cons_zero, List.set_cons_succ]
              refine WpEnd.take (i := 3) (some 152) (v := ?_) rfl rfl (by kernel_rfl) (by kernel_rfl) (by kernel_rfl) (fun _ _ _ h => h) (by kernel_rfl) hInv (by assumption) (by rfl) ?_ (fun hInv2 => ?_)
              rotate_left
              · (intro w hSw; (try dsimp only at hSw); have hSx := x0 _ hSw; go_simp; (try with_reducible rfl))
              clear hInv; have hInv := hInv2; clear hInv2
              simp only [Act.put, List.setIfInBounds_toArray, List.set_cons_zero, List.set_cons_succ]
              refine WpEnd.take (i := 4) (some 153) (v := ?_) rfl rfl (by kernel_rfl) (by kernel_rfl) (by kernel_rfl) (fun _ _ _ h => h) (by kernel_rfl) hInv (by assumption) (by rfl) ?_ (fun hInv2 => ?_)
              rotate_left
              · (intro w hSw; (try dsimp only at hSw); have hSx := x0 _ hSw; go_simp; (try with_reducible rfl))
              clear hInv; have hInv := hInv2; clear hInv2
              simp only [Act.put, List.setIfInBounds_toArray, List.set_cons_zero, List.set_cons_succ]
              refine WpEnd.take (i := 5) (some 154) (v := ?_) rfl rfl (by kernel_rfl) (by kernel_rfl) (by kernel_rfl) (fun _ _ _ h => h) (by kernel_rfl) hInv (by assumption) (by rfl) ?_ (fun hInv2 => ?_)
              rotate_left
              · (intro w hSw; (try dsimp only at hSw); have hSx := x0 _ hSw; go_simp; (try with_reducible rfl))
              clear hInv; have hInv := hInv2; clear hInv2
              simp only [Act.put, List.setIfInBounds_toArray, List.set_cons_zero, List.set_cons_succ]
              refine WpEnd.ready (rs := [6]) (by kernel_rfl) (by simp) ?_
              refine EachEnd.cons (some 155) rfl rfl (by decide) (by kernel_rfl) hInv (fun K hKK hKB => ?_) EachEnd.nil
              refine step_build_1 76 31 ([.int .i64 cr, .int .i64 chn, .bool by_, .bool ck, .int .i64 sq, .string d]) rfl _ rfl _ rfl (build_tc _ (⟨cr, chn, by_, ck, sq, d⟩ : Tc)) ?_
              have hL1 := hL0.alloc hL0.size (Obj.cells ([.int .i64 cr, .int .i64 chn, .bool by_, .bool ck, .int .i64 sq, .string d]).toArray 31)
              have hy1 := Blk.new W13.drew ([.int .i64 cr, .int .i64 chn, .bool by_, .bool ck, .int .i64 sq, .string d]) 31
              obtain ⟨nb, hnb⟩ : ∃ nb, nb = (W13.drew).heap.size := ⟨_, rfl⟩
              rw [← hnb] at hy1 ⊢
              obtain ⟨Wb, hWb⟩ : ∃ Wb, Wb = (W13.drew).alloc (Obj.cells ([.int .i64 cr, .int .i64 chn, .bool by_, .bool ck, .int .i64 sq, .string d]).toArray 31) := ⟨_, rfl⟩
              rw [← hWb] at hL1 hy1 ⊢
              refine hKK.out _ _ ((Keep.refl _ _).below hL1 (Nat.le_refl _)) (fun hInv2 hHeld2 => ?_)
              clear hKK hKB K hWb hnb hInv hHeld; have hInv := hInv2; have hHeld := hHeld2; clear hInv2 hHeld2
              simp only [Act.put, List.setIfInBounds_toArray, List.set_cons_zero, List.set_cons_succ]
              refine WpEnd.ready (rs := [7]) (by kernel_rfl) (by simp) ?_
              refine EachEnd.cons (some 156) rfl rfl (by decide) (by kernel_rfl) hInv (fun K hKK hKB => ?_) EachEnd.nil
              refine step_append_q 76 31 6 48 i0 (.agg #[.int .i64 0, .int .i64 0, .bool false, .bool false, .int .i64 0, .string ⟨#[]⟩]) rfl _ _ rfl Try.underlying76 hi0 hz0 rfl hz1 hz2 0 uv' q.up.length _ rfl (q_below HPZ.out.up hL1 (Nat.le_refl _)) nb 0 1 1 ([.int .i64 cr, .int .i64 chn, .bool by_, .bool ck, .int .i64 sq, .string d]) rfl rfl (by intro u hu; simp at hu; rcases hu with rfl | rfl | rfl | rfl | rfl | rfl <;> rfl) (fun j u hj => by rw [Nat.zero_add]; exact (hy1.cell j).trans hj) (by omega) (by unfold maxLen; omega) (Nat.zero_le _) ?_
              intro v' Wd hq2 hk2 hm2
              refine hKK.out _ _ (((Keep.refl _ _).below hL1 (Nat.le_refl _)).trans hk2) (fun hInv2 hHeld2 => ?_)
              clear hKK hKB K hInv hHeld; have hInv := hInv2; have hHeld := hHeld2; clear hInv2 hHeld2
              simp only [Act.put, List.setIfInBounds_toArray, List.set_cons_zero, List.set_cons_succ]
              refine WpEnd.take (i := 8) (some 157) (v := ?_) rfl rfl (by kernel_rfl) (by kernel_rfl) (by kernel_rfl) (fun _ _ _ h => h) (by kernel_rfl) hInv (by assumption) (by rfl) ?_ (fun hInv2 => ?_)
              rotate_left
              · (intro w hSw; (try dsimp only at hSw); have hSx := x0 _ hSw; go_simp; (try with_reducible rfl))
              clear hInv; have hInv := hInv2; clear hInv2
              simp only [Act.put, List.setIfInBounds_toArray, List.set_cons_zero, List.set_cons_succ]
              refine WpEnd.take (i := 9) (some 158) (v := ?_) rfl rfl (by kernel_rfl) (by kernel_rfl) (by kernel_rfl) (fun _ _ _ h => h) (by kernel_rfl) hInv (by assumption) (by rfl) ?_ (fun hInv2 => ?_)
              rotate_left
              · (intro w hSw; (try dsimp only at hSw); have hSx := x0 _ hSw; go_simp; (try with_reducible rfl))
              clear hInv; have hInv := hInv2; clear hInv2
              simp only [Act.put, List.setIfInBounds_toArray, List.set_cons_zero, List.set_cons_succ]
              refine WpEnd.ready (rs := [10]) (by kernel_rfl) (by simp) ?_
              refine EachEnd.last rfl (fun K hKK => ?_)
              have c0 := (HPZ.out.sure (v := uv') (by simp) hHeld).1.cell 2
              have f0 := (HPZ.out.sure (v := uv') (by simp) hHeld).1.free 2
              simp only [pairCells, List.getElem?_cons_zero, List.getElem?_cons_succ] at c0
              have hP3 := HPZ.out.pushUp (l := (q.up ++ [(⟨cr, chn, by_, ck, sq, d⟩ : Tc)])) hL1 hk2 hm2 (by simp only [List.length_append, List.length_singleton, tcRow_snoc]; exact hq2)
              obtain ⟨ra, rc, hve⟩ := qform hq2
              subst hve
              go_simp
              refine hKK.out _ _ ?_
              clear hKK K
              refine WpEnd.done (by kernel_rfl) ?_ _
              refine post_any (fun W' => PairAt w1 W' P gf gg (.slice ra (q.up.length + 1) rc) dv2 nv av3 { { q with s := s2 } with up := (q.up ++ [(⟨cr, chn, by_, ck, sq, d⟩ : Tc)]) }) hP3 ?_
              clear hP3  hm2 hq2 hk2 hy1 hL1 hL0 hHeld hInv c0 f0 x0 hi0 hz0 hz1 hz2 i0 
              rintro W14 hP14
              have HP4 := Lib.hid hP14
              clear hP14 HPZ HX
              go_wp2_with fail
              go_roundw
              case rel => exact ⟨kk + 1, _, ns', j', _, by go_num, HP4.out, HD2.out, by have := HCN.out; have := HKK.out; omega, HUQ.out⟩
              case measure => simp [intOf]; omega
        · change l = _ at hl
          subst hl
          clear HTO
          refine (events_alert P gf gg uv dv2 nv (.slice aa p2.acc.length ac) { p2 with s := s' } v W9 HP2.out.blk HQ.out HFP.out).mono ?_
          rintro e W10 ⟨rfl, hK, hB⟩
          have hP3 := HP2.out.nums (a := p2.acked) (l := 1) hK hB
          have c7 := hP3.blk.cell 7
          simp only [pairCells, List.getElem?_cons_zero, List.getElem?_cons_succ] at c7
          have HW3 := Lib.hid (HL.out.trans (hP3.fop.toBelow.mono HL.out.size))
          clear hK hB hP3 HP2 HQ HFP
          go_wp2_with fail
          go_ret
          exact ⟨rfl, HW3.out⟩
theorem FopProgress_any (a c : Int) (sa : Option Addr) (sn sc : Nat) (S : Nat → Int) (w : World) (ha : I64 a) (hc : I64 c) (hsn : sn ≤ 9223372036854775807) (hr : RowAt w sa sn (fun i => .int .i64 (S i))) (hS : ∀ i, i < sn → I64 (S i)) :
    Calls Try.prog 7 #[.int .i64 a, .int .i64 c, .slice sa sn sc] w fun e w' => e = .returned (.bool true) ∧ Below w.heap.size w w' := by
  by_cases h : 1500 < sn
  · exact FopProgress_out a c sa sn sc w hsn h
  · exact FopProgress_in a c sa sn sc S w ha hc (by omega) hr hS
section
open Go.ChangeShapes Go.WideShapes Go.ChangeAt Go.Deep
variable {H : Type} {enc : TypeId × Value → H} {w : World} {base : Nat} {spare : Nat → Bool} {held : Bool}
set_option maxRecDepth 100000 in
theorem open_ints {r : Reach} {b0 : Nat} {v : Value} {d : DataW H} {p : List MemPlace} (hv : Value.okWide Try.prog w r b0 48 v) (h : DataW.Trod enc Try.prog w base spare held 48 v d p) :
    ∃ a n cap, ∃ S : Nat → Int, v = .slice a n cap ∧ n ≤ 9223372036854775807 ∧ RowAt w a n (fun i => .int .i64 (S i)) ∧ ∀ i, i < n → I64 (S i) := by
  obtain ⟨fuel, hf⟩ := h
  obtain ⟨a0, len, cap, rfl⟩ := okWide_slice Try.underlying48 hv
  exact ints_open (v := .slice a0 len cap) hf
end
end Go.Proofs.Ytbncejmohhejlaa