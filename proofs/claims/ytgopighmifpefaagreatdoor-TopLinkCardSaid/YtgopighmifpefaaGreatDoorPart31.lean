/- What is proved here: a part of the proof of TopLink (texts Jh Jw Jc Ji Jb). No condition. -/
import Derived.Test.YtgopighmifpefaaGreatDoorPart05
import Derived.Test.YtgopighmifpefaaGreatDoorPart06
import Derived.Test.YtgopighmifpefaaGreatDoorPart08
import Derived.Test.YtgopighmifpefaaGreatDoorPart20
import Derived.Test.YtgopighmifpefaaGreatDoorPart24
import Derived.Test.YtgopighmifpefaaGreatDoorPart27
import Derived.Test.YtgopighmifpefaaGreatDoorPart28
set_option linter.unusedVariables false
set_option linter.unusedSimpArgs false
namespace Go.Proofs.YtgopighmifpefaaGreatDoor
section
open Go.RowKit
theorem lk_hear_none {w W : World} {c : Lc} {l : Ls} (hw : l.words = []) (h : LkM w W c (lkCells c l) l) :
    Calls Tryz.prog 10 #[.pointer (some ⟨c.L, 0, none⟩)] W fun e w' => e = .returned (.tuple #[]) ∧ w' = W := by
  obtain ⟨va, vc, hve⟩ := qform h.words
  rw [hw] at hve
  have c8 := h.blk.cell 8
  simp only [lkCells, List.cons_append, List.nil_append, List.getElem?_cons_zero, List.getElem?_cons_succ, hve, List.length_nil] at c8
  clear h hve
  go_enter Tryz.func10, Tryz.ntmps10
  go_wp2_with fail
  exact bodyPost_ret (v := .tuple #[]) (by simp [results, Tryz.results10, go_sem]) rfl ⟨rfl, rfl⟩
set_option maxHeartbeats 8000000 in
set_option maxRecDepth 100000 in
theorem lk_hear_walk {w W : World} {c : Lc} {l : Ls} {S : Fs} {nw : Nat} {ws : List Nat} {ev : List Ev} (hbad : l.bad = false) (hw : l.words = nw :: ws) (hlen : ws.length ≤ 1000000) (hev : ev.length ≤ 1000000) (hek : ∀ e ∈ ev, e.kind = 2)
    (HRW : ∀ (S1 : List Nat) (W1 : World), (∀ i ∈ S1, i < W1.heap.size) → FopIn W1 c.gf S1 l.s → Calls Tryz.prog 29 #[.pointer (some ⟨c.gf, 0, none⟩), .int .u32 (nw : Nat)] W1 fun e w' => ∃ v S', e = .returned (.tuple #[v, .int .i64 0]) ∧ Pt W1 w' c.gf S1 S' S ∧ Given W1 w' S1 S' ev v)
    (h : LkM w W c (lkCells c l) l) :
    Calls Tryz.prog 10 #[.pointer (some ⟨c.L, 0, none⟩)] W fun e w' => e = .returned (.tuple #[]) ∧ ∃ c', c'.L = c.L ∧ LkM w w' c' (lkCells c' { l with s := S, words := ws }) { l with s := S, words := ws } := by
  have hdq := h.words
  rw [hw] at hdq
  have hdq' : QRow W 0 41 1 c.wv (ws.length + 1) (u32Row (nw :: ws)) := hdq
  obtain ⟨q, off, cap, hve, -, hqw, hcap, hcl, hfr⟩ := q_cells hdq' (by omega)
  have d0 : W.cell? ⟨q, off, none⟩ = some (.int .u32 (nw : Nat)) := hcl 0 _ rfl
  have c8 := h.blk.cell 8; have c0 := h.blk.cell 0
  simp only [lkCells, List.cons_append, List.nil_append, List.getElem?_cons_zero, List.getElem?_cons_succ, hve, pt] at c8 c0
  have k1 : (((ws.length + 1 : Nat) : Int) == 0) = false := by simp; omega
  have k3 : (0 : Int) < ((ws.length + 1 : Nat) : Int) := by omega
  have HP := Lib.hid h; have HW := Lib.hid HRW
  clear h hcl hfr hdq hdq' hqw hcap HRW
  go_enter Tryz.func10, Tryz.ntmps10
  go_upto_region 1 with fail
  go_cut [2, 3] (fun p2 p3 W2 => p3 = .int .i64 0 ∧ LkM w W2 c (lkCells c { l with s := S }) { l with s := S } ∧ QRow W2 0 83 3 p2 ev.length (evRow ev) ∧ ∀ r ∈ c.gs.flatten, p2.ownBlock ≠ some r)
  case first =>
    obtain ⟨S1, hI, hlt, hgv⟩ := (HP.out.drew).fop.callG
    have HG := Lib.hid (fun (W' : World) (s' : Fs) (S' : List Nat) (l : List Ev) (v : Value) => @hgv W' s' S' l v); have HI := Lib.hid hI; have HLT := Lib.hid hlt
    clear hI hlt hgv
    go_region_with (first | (go_at_call 29; refine (HW.out S1 _ HLT.out HI.out).mono ?_; rintro e W2 ⟨v, S2, rfl, hP, hG⟩) | fail)
    all_goals
      obtain ⟨hX, hQ, hR, hF⟩ := HG.out _ _ _ _ _ hP hG
      have hP2 := HP.out.drew.call hX hR
      clear d0 c8 c0
      go_wp2_with fail
      go_meet
      exact ⟨rfl, hP2, hQ, hF⟩
  case rest =>
    obtain ⟨rfl, hP, hQ, hF⟩ := hcut
    obtain ⟨ea, ec, hee⟩ := qform hQ
    subst hee
    have HQ := Lib.hid hQ; have HF := Lib.hid hF; have HP2 := Lib.hid hP
    clear hP hQ hF HP HW d0 c8 c0 k1 k3
    have hww : QRow wc 0 41 1 c.wv (ws.length + 1) (u32Row (nw :: ws)) := by have := HP2.out.words; dsimp only at this; rw [hw] at this; exact this
    obtain ⟨v', hsl, hq', hown⟩ := u32_tail hww
    obtain ⟨va, vc, hve'⟩ := qform hq'
    subst hve'
    rw [hve] at hsl
    have hsl2 : ∀ W, Sem.run Tryz.prog (Instr.sliceAt 35 (.slice (some ⟨q, off, none⟩) (ws.length + 1) cap) (some (.int .i64 1)) none none) W = .ok (.slice va ws.length vc) W := hsl
    have HO := Lib.hid hown; have HQ' := Lib.hid hq'
    clear hsl hown hq' hww
    have c8 := HP2.out.blk.cell 8; have f8 := HP2.out.blk.free 8
    simp only [lkCells, List.cons_append, List.nil_append, List.getElem?_cons_zero, List.getElem?_cons_succ, hve] at c8
    go_upto_region 3 with fail
    have kk : Keep [c.L] wc (wc.setCell ⟨c.L, 8, none⟩ (.slice va ws.length vc)) := (Keep.refl _ _).setCell (.inl (by simp)) _
    have hnw : ∀ x, c.wv.ownBlock = some x → x ∉ [c.L] := fun x hx hm => by
      simp at hm; subst hm
      exact dj_get HP2.out.apart 0 7 _ _ rfl rfl (by decide) c.L (by simp [hx]) (by simp)
    have hP3 := (HP2.out.poke 8 (.slice va ws.length vc)).rowW (v' := .slice va ws.length vc) (q := ws) (Keep.refl _ _) (fun j hj => .inl (by rw [← HO.out]; exact hj)) (q_keep HQ'.out kk (by rw [HO.out]; exact hnw))
    have hQ3 := q_keep HQ.out kk (fun x hx hm => by simp at hm; subst hm; exact HF.out _ c.inL hx)
    have HFL := Lib.hid (HF.out _ c.inL)
    refine gen_world (fun W' => ∃ c2 : Lc, c2.L = c.L ∧ LkM w W' c2 (lkCells c2 { l with s := S, words := ws }) { l with s := S, words := ws } ∧ QRow W' 0 83 3 (.slice ea ev.length ec) ev.length (evRow ev)) ⟨{ c with wv := .slice va ws.length vc }, rfl, hP3, hQ3⟩ ?_
    clear hP3 hQ3 kk hnw c8 f8 hsl2 HO HQ' HQ HF HP2 hve
    rintro W3 ⟨c2, hL2, hP, hQ⟩
    rw [← hL2] at HFL ⊢
    have HL2 := Lib.hid hL2
    clear hL2
    have HP := Lib.hid hP; have HQ := Lib.hid hQ
    clear hP hQ
    have c10 := HP.out.blk.cell 10; have f10 := HP.out.blk.free 10
    simp only [lkCells, List.cons_append, List.nil_append, List.getElem?_cons_zero, List.getElem?_cons_succ, hbad] at c10
    have e10 : (lkCells c2 { l with s := S, words := ws }).set 10 (.bool false) = lkCells c2 { l with s := S, words := ws } := by unfold lkCells; simp only [hbad]; rfl
    have E10 := Lib.hid e10; clear e10
    go_upto_region 4 with fail
    have hP4 := HP.out.poke 10 (.bool false)
    rw [E10.out] at hP4
    have hQ4 := q_keep HQ.out (show Keep [c2.L] W3 (W3.setCell ⟨c2.L, 10, none⟩ (.bool false)) from (Keep.refl _ _).setCell (.inl (by simp)) _) (fun x hx hm => by simp at hm; subst hm; exact HFL.out hx)
    refine gen_world (fun W' => LkM w W' c2 (lkCells c2 { l with s := S, words := ws }) { l with s := S, words := ws } ∧ QRow W' 0 83 3 (.slice ea ev.length ec) ev.length (evRow ev)) ⟨hP4, hQ4⟩ ?_
    clear hP4 hQ4 HP HQ c10 f10
    rintro W4 ⟨hP, hQ⟩
    have HP := Lib.hid hP; have HQ := Lib.hid hQ; have HEK := Lib.hid hek
    clear hP hQ hek
    go_wp2_with fail
    go_loopw [4] (fun iv wr => ∃ j : Nat, j ≤ ev.length ∧ iv = .int .i64 j ∧ LkM w wr c2 (lkCells c2 { l with s := S, words := ws }) { l with s := S, words := ws } ∧ QRow wr 0 83 3 (.slice ea ev.length ec) ev.length (evRow ev)) (fun iv _ => ev.length - (intOf iv).toNat)
    case atStart => exact ⟨0, Nat.zero_le _, rfl, HP.out, HQ.out⟩
    case round =>
      obtain ⟨j, hj, rfl, hP, hQ⟩ := hrel
      clear HP HQ
      by_cases hlt : j < ev.length
      · obtain ⟨q2, off2, cap2, hv2, -, hqw2, hcap2, hcl2, hfr2⟩ := q_cells hQ (by omega)
        injection hv2 with e1 e2 e3
        clear e2
        subst e1 e3
        have hat := evRow_at ev j hlt
        have d0 := hcl2 _ _ hat.1
        rw [HEK.out _ (List.getElem_mem hlt)] at d0
        try simp only [← Nat.add_assoc, Nat.zero_add] at d0
        have c10 := hP.blk.cell 10; have f10 := hP.blk.free 10
        simp only [lkCells, List.cons_append, List.nil_append, List.getElem?_cons_zero, List.getElem?_cons_succ, hbad] at c10
        have hP4 := hP.poke 10 (.bool false)
        rw [E10.out] at hP4
        have hQ4 := q_keep hQ (show Keep [c2.L] wr (wr.setCell ⟨c2.L, 10, none⟩ (.bool false)) from (Keep.refl _ _).setCell (.inl (by simp)) _) (fun x hx hm => by simp at hm; subst hm; exact HFL.out hx)
        have HP4 := Lib.hid hP4; have HQ4 := Lib.hid hQ4
        clear hP hQ hcl2 hfr2 hqw2 hcap2 hat hP4 hQ4
        go_wp2_with fail
        go_roundw
        case rel => exact ⟨j + 1, by omega, by go_num, HP4.out, HQ4.out⟩
        case measure => simp [intOf]; omega
      · obtain rfl : j = ev.length := by omega
        have HP := Lib.hid hP
        clear hP hQ
        go_wp2_with fail
        go_end0
        exact ⟨rfl, c2, HL2.out, HP.out⟩
end
section
open Go.RowKit
theorem lk_word {k n0 : Nat} {l : Ls} {pks : List (Nat × Nat)} {ups : List Nat} {dws : List Lk.Dw} {b N : Nat} {bo : Option Nat} {gg : Nat} (h : LI k n0 l pks ups dws b N bo) (W1 : World) (hB : Blk W1 gg l.f.cells 80) :
    Calls Tryz.prog 9 #[.pointer (some ⟨gg, 0, none⟩)] W1 fun e w' => e = .returned (.int .u32 (wordN 0 l.f.st.bypd.toNat ((n0 + N) % 256) false l.f.st.wait l.f.st.retx : Nat)) ∧ Below W1.heap.size W1 w' := by
  have hI := h.inv
  have hacc := h.acc
  have h1 := hI.fchan; have h2 := hI.flock; have h3 := hI.fbyp; have h4 := hI.fnext; have h5 := hI.fhalf; have h6 := hI.hk
  simp only [prOf] at h1 h2 h3 h4 h5
  rw [hacc] at h4
  obtain ⟨f, hf⟩ : ∃ f, f = l.f := ⟨_, rfl⟩
  rw [← hf] at h1 h2 h3 h4 h5 hB ⊢
  obtain ⟨cr, h, ch, lo, wa, re, by_, nx⟩ := f
  simp only at h1 h2 h3 h4 h5 hB ⊢
  obtain ⟨bn, rfl⟩ : ∃ bn : Nat, (bn : Int) = by_ := ⟨by_.toNat, by omega⟩
  have hnx : nx = (((n0 + N) % 256 : Nat) : Int) := by omega
  subst h1 h2 hnx
  rw [Int.toNat_natCast]
  exact Word_any cr h 0 bn ((n0 + N) % 256) false wa re gg W1 (by omega) (by omega) (by omega) (by omega) hB
set_option maxHeartbeats 8000000 in
set_option maxRecDepth 100000 in
theorem act_word {w W : World} {c : Lc} {l : Ls} {fv : Value} {nw : Nat} (n : Int) (m : Nat) (hn : I64 n) (hm : (m : Int) = n % 1024) (hc : m % 16 = 11) (hwl : l.words.length ≤ 1000000)
    (hW : ∀ (W1 : World), Blk W1 c.gg l.f.cells 80 → Calls Tryz.prog 9 #[.pointer (some ⟨c.gg, 0, none⟩)] W1 fun e w' => e = .returned (.int .u32 (nw : Nat)) ∧ Below W1.heap.size W1 w') (h : LkM w W c (lkCells c l) l) :
    Calls Tryz.prog 5 #[.pointer (some ⟨c.L, 0, none⟩), .int .i64 n, fv] W fun e w' => e = .returned (.bool true) ∧ LkIn w w' c.L { l with words := l.words ++ [nw] } := by
  have HW := Lib.hid hW
  have HP := Lib.hid h
  have HK := Lib.hid (fun W => pick_any n 1024 W (by omega) (by omega) hn.1 hn.2)
  rw [← hm] at HK
  have hc2 : ((m : Int) % 16) = 11 := by omega
  clear hW h hm hn hc
  go_enter Tryz.func5, Tryz.ntmps5
  go_wp2_with fail
  refine (HK.out _).mono ?_
  rintro e _ ⟨rfl, rfl⟩
  clear HK
  go_upto_region 20 with fail
  obtain ⟨i0, hi0, hz0, hz1, hz2⟩ := info_parts info_u32
  have x0 : ∀ W', Blk W' c.L (lkCells c l) 39 → (W'.cell? ⟨c.L, 8, none⟩ = some c.wv ∧ W'.cell? ⟨c.L, 1, none⟩ = some (.pointer (some ⟨c.gg, 0, none⟩))) := fun W' k => ⟨k.cell 8, k.cell 1⟩
  refine region_end (fun W' => Blk W' c.L (lkCells c l) 39) 14 (by kernel_rfl) HP.out.blk.drew (fun hInv hHeld => ?_)
  have hPd := HP.out.drew
  generalize W.drew = W0 at hPd hHeld ⊢
  clear HP
  have HP := Lib.hid hPd
  clear hPd
  refine WpEnd.take (i := 0) (some 70) (v := ?_) rfl rfl (by kernel_rfl) (by kernel_rfl) (by kernel_rfl) (fun _ _ _ h => h) (by kernel_rfl) hInv (by assumption) (by rfl) ?_ (fun hInv2 => ?_)
  rotate_left
  · (intro w hSw; (try dsimp only at hSw); obtain ⟨s8, s1⟩ := x0 _ hSw; go_simp; (try with_reducible rfl))
  clear hInv; have hInv := hInv2; clear hInv2
  simp only [Act.put, List.setIfInBounds_toArray, List.set_cons_zero, List.set_cons_succ]
  refine WpEnd.take (i := 1) (some 71) (v := ?_) rfl rfl (by kernel_rfl) (by kernel_rfl) (by kernel_rfl) (fun _ _ _ h => h) (by kernel_rfl) hInv (by assumption) (by rfl) ?_ (fun hInv2 => ?_)
  rotate_left
  · (intro w hSw; (try dsimp only at hSw); obtain ⟨s8, s1⟩ := x0 _ hSw; go_simp; (try with_reducible rfl))
  clear hInv; have hInv := hInv2; clear hInv2
  simp only [Act.put, List.setIfInBounds_toArray, List.set_cons_zero, List.set_cons_succ]
  refine WpEnd.take (i := 2) (some 72) (v := ?_) rfl rfl (by kernel_rfl) (by kernel_rfl) (by kernel_rfl) (fun _ _ _ h => h) (by kernel_rfl) hInv (by assumption) (by rfl) ?_ (fun hInv2 => ?_)
  rotate_left
  · (intro w hSw; (try dsimp only at hSw); obtain ⟨s8, s1⟩ := x0 _ hSw; go_simp; (try with_reducible rfl))
  clear hInv; have hInv := hInv2; clear hInv2
  simp only [Act.put, List.setIfInBounds_toArray, List.set_cons_zero, List.set_cons_succ]
  refine WpEnd.take (i := 3) (some 73) (v := ?_) rfl rfl (by kernel_rfl) (by kernel_rfl) (by kernel_rfl) (fun _ _ _ h => h) (by kernel_rfl) hInv (by assumption) (by rfl) ?_ (fun hInv2 => ?_)
  rotate_left
  · (intro w hSw; (try dsimp only at hSw); obtain ⟨s8, s1⟩ := x0 _ hSw; go_simp; (try with_reducible rfl))
  clear hInv; have hInv := hInv2; clear hInv2
  simp only [Act.put, List.setIfInBounds_toArray, List.set_cons_zero, List.set_cons_succ]
  refine WpEnd.take (i := 4) (some 74) (v := ?_) rfl rfl (by kernel_rfl) (by kernel_rfl) (by kernel_rfl) (fun _ _ _ h => h) (by kernel_rfl) hInv (by assumption) (by rfl) ?_ (fun hInv2 => ?_)
  rotate_left
  · (intro w hSw; (try dsimp only at hSw); obtain ⟨s8, s1⟩ := x0 _ hSw; go_simp; (try with_reducible rfl))
  clear hInv; have hInv := hInv2; clear hInv2
  simp only [Act.put, List.setIfInBounds_toArray, List.set_cons_zero, List.set_cons_succ]
  refine WpEnd.take (i := 5) (some 75) (v := ?_) rfl rfl (by kernel_rfl) (by kernel_rfl) (by kernel_rfl) (fun _ _ _ h => h) (by kernel_rfl) hInv (by assumption) (by rfl) ?_ (fun hInv2 => ?_)
  rotate_left
  · (intro w hSw; (try dsimp only at hSw); obtain ⟨s8, s1⟩ := x0 _ hSw; go_simp; (try with_reducible rfl))
  clear hInv; have hInv := hInv2; clear hInv2
  simp only [Act.put, List.setIfInBounds_toArray, List.set_cons_zero, List.set_cons_succ]
  refine WpEnd.take (i := 6) (some 76) (v := ?_) rfl rfl (by kernel_rfl) (by kernel_rfl) (by kernel_rfl) (fun _ _ _ h => h) (by kernel_rfl) hInv (by assumption) (by rfl) ?_ (fun hInv2 => ?_)
  rotate_left
  · (intro w hSw; (try dsimp only at hSw); obtain ⟨s8, s1⟩ := x0 _ hSw; go_simp; (try with_reducible rfl))
  clear hInv; have hInv := hInv2; clear hInv2
  simp only [Act.put, List.setIfInBounds_toArray, List.set_cons_zero, List.set_cons_succ]
  refine WpEnd.take (i := 7) (some 77) (v := ?_) rfl rfl (by kernel_rfl) (by kernel_rfl) (by kernel_rfl) (fun _ _ _ h => h) (by kernel_rfl) hInv (by assumption) (by rfl) ?_ (fun hInv2 => ?_)
  rotate_left
  · (intro w hSw; (try dsimp only at hSw); obtain ⟨s8, s1⟩ := x0 _ hSw; go_simp; (try with_reducible rfl))
  clear hInv; have hInv := hInv2; clear hInv2
  simp only [Act.put, List.setIfInBounds_toArray, List.set_cons_zero, List.set_cons_succ]
  refine WpEnd.take (i := 8) (some 78) (v := ?_) rfl rfl (by kernel_rfl) (by kernel_rfl) (by kernel_rfl) (fun _ _ _ h => h) (by kernel_rfl) hInv (by assumption) (by rfl) ?_ (fun hInv2 => ?_)
  rotate_left
  · (intro w hSw; (try dsimp only at hSw); obtain ⟨s8, s1⟩ := x0 _ hSw; go_simp; (try with_reducible rfl))
  clear hInv; have hInv := hInv2; clear hInv2
  simp only [Act.put, List.setIfInBounds_toArray, List.set_cons_zero, List.set_cons_succ]
  refine WpEnd.ready (rs := [9]) (by kernel_rfl) (by simp) ?_
  refine EachEnd.cons (some 79) rfl rfl (by decide) (by kernel_rfl) hInv (fun K hKK hKB => ?_) EachEnd.nil
  refine step_call rfl 9 #[.tmp 78] _ rfl #[.pointer (some ⟨c.gg, 0, none⟩)] (by kernel_rfl) (fun x V => x = .int .u32 (nw : Nat) ∧ Below W0.heap.size W0 V) ((HW.out W0 HP.out.farm).mono fun e V h => ⟨_, h.1, rfl, h.2⟩) ?_
  rintro x Wc ⟨rfl, hL0⟩
  refine hKK.out _ _ (HP.out.blk.below hL0 HP.out.blk.lt) (fun hInv2 hHeld2 => ?_)
  clear hKK hKB K hInv hHeld; have hInv := hInv2; have hHeld := hHeld2; clear hInv2 hHeld2
  simp only [Act.put, List.setIfInBounds_toArray, List.set_cons_zero, List.set_cons_succ]
  refine WpEnd.ready (rs := [10]) (by kernel_rfl) (by simp) ?_
  refine EachEnd.cons (some 80) rfl rfl (by decide) (by kernel_rfl) hInv (fun K hKK hKB => ?_) EachEnd.nil
  refine step_build_1 35 41 (u32Row [nw]) rfl _ rfl _ rfl (build_w1 _ nw) ?_
  have hL1 := hL0.alloc hL0.size (Obj.cells (u32Row [nw]).toArray 41)
  have hy1 := Blk.new Wc (u32Row [nw]) 41
  obtain ⟨nb, hnb⟩ : ∃ nb, nb = Wc.heap.size := ⟨_, rfl⟩
  rw [← hnb] at hy1 ⊢
  obtain ⟨Wb, hWb⟩ : ∃ Wb, Wb = Wc.alloc (Obj.cells (u32Row [nw]).toArray 41) := ⟨_, rfl⟩
  rw [← hWb] at hL1 hy1 ⊢
  refine hKK.out _ _ (HP.out.blk.below hL1 HP.out.blk.lt) (fun hInv2 hHeld2 => ?_)
  clear hWb hnb
  clear hKK hKB K hInv hHeld; have hInv := hInv2; have hHeld := hHeld2; clear hInv2 hHeld2
  simp only [Act.put, List.setIfInBounds_toArray, List.set_cons_zero, List.set_cons_succ]
  refine WpEnd.ready (rs := [11]) (by kernel_rfl) (by simp) ?_
  refine EachEnd.cons (some 81) rfl rfl (by decide) (by kernel_rfl) hInv (fun K hKK hKB => ?_) EachEnd.nil
  refine step_append_q 35 41 1 4 i0 (.int .u32 0) rfl _ _ rfl Tryz.underlying35 hi0 hz0 rfl hz1 hz2 0 c.wv l.words.length _ rfl (q_below HP.out.words hL1 (Nat.le_refl _)) nb 0 1 1 (u32Row [nw]) rfl rfl (by intro z hz; simp [u32Row] at hz; subst hz; rfl) (fun j z hj => by rw [Nat.zero_add]; exact (hy1.cell j).trans hj) (by omega) (by unfold maxLen; omega) (Nat.zero_le _) ?_
  intro v8 Wd hq hk hm
  obtain ⟨hPn, hTn⟩ := HP.out.pushW (q := l.words ++ [nw]) hL1 hk hm (by simp only [List.length_append, List.length_singleton, u32Row_snoc]; exact hq)
  refine hKK.out _ _ hPn.blk (fun hInv2 hHeld2 => ?_)
  clear HP hL0 hL1 hy1 hk hm hq hTn
  have HP := Lib.hid hPn
  clear hPn
  clear hKK hKB K hInv hHeld; have hInv := hInv2; have hHeld := hHeld2; clear hInv2 hHeld2
  simp only [Act.put, List.setIfInBounds_toArray, List.set_cons_zero, List.set_cons_succ]
  refine WpEnd.take (i := 12) (some 82) (v := ?_) rfl rfl (by kernel_rfl) (by kernel_rfl) (by kernel_rfl) (fun _ _ _ h => h) (by kernel_rfl) hInv (by assumption) (by rfl) ?_ (fun hInv2 => ?_)
  rotate_left
  · (intro w hSw; (try dsimp only at hSw); obtain ⟨s8, s1⟩ := x0 _ hSw; go_simp; (try with_reducible rfl))
  clear hInv; have hInv := hInv2; clear hInv2
  simp only [Act.put, List.setIfInBounds_toArray, List.set_cons_zero, List.set_cons_succ]
  refine WpEnd.take (i := 13) (some 83) (v := ?_) rfl rfl (by kernel_rfl) (by kernel_rfl) (by kernel_rfl) (fun _ _ _ h => h) (by kernel_rfl) hInv (by assumption) (by rfl) ?_ (fun hInv2 => ?_)
  rotate_left
  · (intro w hSw; (try dsimp only at hSw); obtain ⟨s8, s1⟩ := x0 _ hSw; go_simp; (try with_reducible rfl))
  clear hInv; have hInv := hInv2; clear hInv2
  simp only [Act.put, List.setIfInBounds_toArray, List.set_cons_zero, List.set_cons_succ]
  refine WpEnd.ready (rs := [14]) (by kernel_rfl) (by simp) ?_
  refine EachEnd.last rfl (fun K hKK => ?_)
  obtain ⟨va, vc, hve⟩ := qform HP.out.words
  simp only [List.length_append, List.length_singleton] at hve
  subst hve
  have c8 := HP.out.blk.cell 8; have f8 := HP.out.blk.free 8
  simp only [lkCells, List.cons_append, List.nil_append, List.getElem?_cons_zero, List.getElem?_cons_succ] at c8
  have hPp := HP.out.poke 8 (.slice va (l.words.length + 1) vc)
  go_simp
  refine hKK.out _ _ ?_
  clear hKK K
  refine WpEnd.done (by kernel_rfl) ?_ _
  refine post_any (fun W' => ∃ c' : Lc, c'.L = c.L ∧ c'.P = c.P ∧ LkM w W' c' (lkCells c' { l with words := l.words ++ [nw] }) { l with words := l.words ++ [nw] }) ⟨{ c with wv := .slice va (l.words.length + 1) vc }, rfl, rfl, hPp⟩ ?_
  clear hPp HP c8 f8 x0 hi0 hz0 hz1 hz2 i0 HW hInv hHeld
  rintro W3 ⟨c', hcL, hcP, hP⟩
  have HP := Lib.hid hP; have HCL := Lib.hid hcL; have HCP := Lib.hid hcP
  clear hP hcL hcP
  go_wp2_with fail
  go_ret
  exact ⟨rfl, c', HCL.out, HP.out⟩
end
section
open Go.RowKit
set_option maxHeartbeats 4000000 in
set_option maxRecDepth 100000 in
theorem act_s0 {W : World} (L : Nat) (fv : Value) (n : Int) (m : Nat) (hn : I64 n) (hm : (m : Int) = n % 1024) (hc : m % 16 = 0) (R : World → Prop)
    (hS : Calls Tryz.prog 22 #[.pointer (some ⟨L, 0, none⟩), .int .i64 ((m : Int) / 16 * 9), .int .i64 ((m : Int) / 16 * 5)] W fun e w' => e = .returned (.tuple #[]) ∧ R w') :
    Calls Tryz.prog 5 #[.pointer (some ⟨L, 0, none⟩), .int .i64 n, fv] W fun e w' => e = .returned (.bool true) ∧ R w' := by
  have HK := Lib.hid (fun W => pick_any n 1024 W (by omega) (by omega) hn.1 hn.2)
  rw [← hm] at HK
  have hc2 : ((m : Int) % 16) = 0 := by omega
  have hm1 : m < 1024 := by omega
  have HS := Lib.hid hS
  clear hS
  clear hm hn hc
  go_enter Tryz.func5, Tryz.ntmps5
  go_wp2_with fail
  refine (HK.out _).mono ?_
  rintro e _ ⟨rfl, rfl⟩
  clear HK
  go_wp2_with fail
  refine HS.out.mono ?_
  rintro e w1 ⟨rfl, hR⟩
  have HR := Lib.hid hR
  clear hR HS
  go_wp2_with fail
  go_ret
  exact ⟨rfl, HR.out⟩
set_option maxHeartbeats 4000000 in
set_option maxRecDepth 100000 in
theorem act_s1 {W : World} (L : Nat) (fv : Value) (n : Int) (m : Nat) (hn : I64 n) (hm : (m : Int) = n % 1024) (hc : m % 16 = 1) (R : World → Prop)
    (hS : Calls Tryz.prog 22 #[.pointer (some ⟨L, 0, none⟩), .int .i64 ((m : Int) / 16 * 9), .int .i64 ((m : Int) / 16 * 5)] W fun e w' => e = .returned (.tuple #[]) ∧ R w') :
    Calls Tryz.prog 5 #[.pointer (some ⟨L, 0, none⟩), .int .i64 n, fv] W fun e w' => e = .returned (.bool true) ∧ R w' := by
  have HK := Lib.hid (fun W => pick_any n 1024 W (by omega) (by omega) hn.1 hn.2)
  rw [← hm] at HK
  have hc2 : ((m : Int) % 16) = 1 := by omega
  have hm1 : m < 1024 := by omega
  have HS := Lib.hid hS
  clear hS
  clear hm hn hc
  go_enter Tryz.func5, Tryz.ntmps5
  go_wp2_with fail
  refine (HK.out _).mono ?_
  rintro e _ ⟨rfl, rfl⟩
  clear HK
  go_wp2_with fail
  refine HS.out.mono ?_
  rintro e w1 ⟨rfl, hR⟩
  have HR := Lib.hid hR
  clear hR HS
  go_wp2_with fail
  go_ret
  exact ⟨rfl, HR.out⟩
set_option maxHeartbeats 4000000 in
set_option maxRecDepth 100000 in
theorem act_t2 {W : World} (L : Nat) (fv : Value) (n : Int) (m : Nat) (hn : I64 n) (hm : (m : Int) = n % 1024) (hc : m % 16 = 2) (R : World → Prop) (r : Bool)
    (hS : Calls Tryz.prog 12 #[.pointer (some ⟨L, 0, none⟩), .bool false, .bool false] W fun e w' => e = .returned (.bool r) ∧ R w') :
    Calls Tryz.prog 5 #[.pointer (some ⟨L, 0, none⟩), .int .i64 n, fv] W fun e w' => e = .returned (.bool true) ∧ R w' := by
  have HK := Lib.hid (fun W => pick_any n 1024 W (by omega) (by omega) hn.1 hn.2)
  rw [← hm] at HK
  have hc2 : ((m : Int) % 16) = 2 := by omega
  have hm1 : m < 1024 := by omega
  have HS := Lib.hid hS
  clear hS
  clear hm hn hc
  go_enter Tryz.func5, Tryz.ntmps5
  go_wp2_with fail
  refine (HK.out _).mono ?_
  rintro e _ ⟨rfl, rfl⟩
  clear HK
  go_wp2_with fail
  refine HS.out.mono ?_
  rintro e w1 ⟨rfl, hR⟩
  have HR := Lib.hid hR
  clear hR HS
  go_wp2_with fail
  go_ret
  exact ⟨rfl, HR.out⟩
set_option maxHeartbeats 4000000 in
set_option maxRecDepth 100000 in
theorem act_t3 {W : World} (L : Nat) (fv : Value) (n : Int) (m : Nat) (hn : I64 n) (hm : (m : Int) = n % 1024) (hc : m % 16 = 3) (R : World → Prop) (r : Bool)
    (hS : Calls Tryz.prog 12 #[.pointer (some ⟨L, 0, none⟩), .bool false, .bool false] W fun e w' => e = .returned (.bool r) ∧ R w') :
    Calls Tryz.prog 5 #[.pointer (some ⟨L, 0, none⟩), .int .i64 n, fv] W fun e w' => e = .returned (.bool true) ∧ R w' := by
  have HK := Lib.hid (fun W => pick_any n 1024 W (by omega) (by omega) hn.1 hn.2)
  rw [← hm] at HK
  have hc2 : ((m : Int) % 16) = 3 := by omega
  have hm1 : m < 1024 := by omega
  have HS := Lib.hid hS
  clear hS
  clear hm hn hc
  go_enter Tryz.func5, Tryz.ntmps5
  go_wp2_with fail
  refine (HK.out _).mono ?_
  rintro e _ ⟨rfl, rfl⟩
  clear HK
  go_wp2_with fail
  refine HS.out.mono ?_
  rintro e w1 ⟨rfl, hR⟩
  have HR := Lib.hid hR
  clear hR HS
  go_wp2_with fail
  go_ret
  exact ⟨rfl, HR.out⟩
set_option maxHeartbeats 4000000 in
set_option maxRecDepth 100000 in
theorem act_t4 {W : World} (L : Nat) (fv : Value) (n : Int) (m : Nat) (hn : I64 n) (hm : (m : Int) = n % 1024) (hc : m % 16 = 4) (R : World → Prop) (r : Bool)
    (hS : Calls Tryz.prog 12 #[.pointer (some ⟨L, 0, none⟩), .bool false, .bool false] W fun e w' => e = .returned (.bool r) ∧ R w') :
    Calls Tryz.prog 5 #[.pointer (some ⟨L, 0, none⟩), .int .i64 n, fv] W fun e w' => e = .returned (.bool true) ∧ R w' := by
  have HK := Lib.hid (fun W => pick_any n 1024 W (by omega) (by omega) hn.1 hn.2)
  rw [← hm] at HK
  have hc2 : ((m : Int) % 16) = 4 := by omega
  have hm1 : m < 1024 := by omega
  have HS := Lib.hid hS
  clear hS
  clear hm hn hc
  go_enter Tryz.func5, Tryz.ntmps5
  go_wp2_with fail
  refine (HK.out _).mono ?_
  rintro e _ ⟨rfl, rfl⟩
  clear HK
  go_wp2_with fail
  refine HS.out.mono ?_
  rintro e w1 ⟨rfl, hR⟩
  have HR := Lib.hid hR
  clear hR HS
  go_wp2_with fail
  go_ret
  exact ⟨rfl, HR.out⟩
set_option maxHeartbeats 4000000 in
set_option maxRecDepth 100000 in
theorem act_t5 {W : World} (L : Nat) (fv : Value) (n : Int) (m : Nat) (hn : I64 n) (hm : (m : Int) = n % 1024) (hc : m % 16 = 5) (R : World → Prop) (r : Bool)
    (hS : Calls Tryz.prog 12 #[.pointer (some ⟨L, 0, none⟩), .bool true, .bool false] W fun e w' => e = .returned (.bool r) ∧ R w') :
    Calls Tryz.prog 5 #[.pointer (some ⟨L, 0, none⟩), .int .i64 n, fv] W fun e w' => e = .returned (.bool true) ∧ R w' := by
  have HK := Lib.hid (fun W => pick_any n 1024 W (by omega) (by omega) hn.1 hn.2)
  rw [← hm] at HK
  have hc2 : ((m : Int) % 16) = 5 := by omega
  have hm1 : m < 1024 := by omega
  have HS := Lib.hid hS
  clear hS
  clear hm hn hc
  go_enter Tryz.func5, Tryz.ntmps5
  go_wp2_with fail
  refine (HK.out _).mono ?_
  rintro e _ ⟨rfl, rfl⟩
  clear HK
  go_wp2_with fail
  refine HS.out.mono ?_
  rintro e w1 ⟨rfl, hR⟩
  have HR := Lib.hid hR
  clear hR HS
  go_wp2_with fail
  go_ret
  exact ⟨rfl, HR.out⟩
set_option maxHeartbeats 4000000 in
set_option maxRecDepth 100000 in
theorem act_t6 {W : World} (L : Nat) (fv : Value) (n : Int) (m : Nat) (hn : I64 n) (hm : (m : Int) = n % 1024) (hc : m % 16 = 6) (R : World → Prop) (r : Bool)
    (hS : Calls Tryz.prog 12 #[.pointer (some ⟨L, 0, none⟩), .bool false, .bool true] W fun e w' => e = .returned (.bool r) ∧ R w') :
    Calls Tryz.prog 5 #[.pointer (some ⟨L, 0, none⟩), .int .i64 n, fv] W fun e w' => e = .returned (.bool true) ∧ R w' := by
  have HK := Lib.hid (fun W => pick_any n 1024 W (by omega) (by omega) hn.1 hn.2)
  rw [← hm] at HK
  have hc2 : ((m : Int) % 16) = 6 := by omega
  have hm1 : m < 1024 := by omega
  have HS := Lib.hid hS
  clear hS
  clear hm hn hc
  go_enter Tryz.func5, Tryz.ntmps5
  go_wp2_with fail
  refine (HK.out _).mono ?_
  rintro e _ ⟨rfl, rfl⟩
  clear HK
  go_wp2_with fail
  refine HS.out.mono ?_
  rintro e w1 ⟨rfl, hR⟩
  have HR := Lib.hid hR
  clear hR HS
  go_wp2_with fail
  go_ret
  exact ⟨rfl, HR.out⟩
set_option maxHeartbeats 4000000 in
set_option maxRecDepth 100000 in
theorem act_a7 {W : World} (L : Nat) (fv : Value) (n : Int) (m : Nat) (hn : I64 n) (hm : (m : Int) = n % 1024) (hc : m % 16 = 7) (R : World → Prop)
    (hS : Calls Tryz.prog 13 #[.pointer (some ⟨L, 0, none⟩), .slice none 0 0] W fun e w' => e = .returned (.tuple #[]) ∧ R w') :
    Calls Tryz.prog 5 #[.pointer (some ⟨L, 0, none⟩), .int .i64 n, fv] W fun e w' => e = .returned (.bool true) ∧ R w' := by
  have HK := Lib.hid (fun W => pick_any n 1024 W (by omega) (by omega) hn.1 hn.2)
  rw [← hm] at HK
  have hc2 : ((m : Int) % 16) = 7 := by omega
  have hm1 : m < 1024 := by omega
  have HS := Lib.hid hS
  clear hS
  clear hm hn hc
  go_enter Tryz.func5, Tryz.ntmps5
  go_wp2_with fail
  refine (HK.out _).mono ?_
  rintro e _ ⟨rfl, rfl⟩
  clear HK
  go_wp2_with fail
  refine HS.out.mono ?_
  rintro e w1 ⟨rfl, hR⟩
  have HR := Lib.hid hR
  clear hR HS
  go_wp2_with fail
  go_ret
  exact ⟨rfl, HR.out⟩
set_option maxHeartbeats 4000000 in
set_option maxRecDepth 100000 in
theorem act_a8 {W : World} (L : Nat) (fv : Value) (n : Int) (m : Nat) (hn : I64 n) (hm : (m : Int) = n % 1024) (hc : m % 16 = 8) (R : World → Prop)
    (hS : Calls Tryz.prog 13 #[.pointer (some ⟨L, 0, none⟩), .slice none 0 0] W fun e w' => e = .returned (.tuple #[]) ∧ R w') :
    Calls Tryz.prog 5 #[.pointer (some ⟨L, 0, none⟩), .int .i64 n, fv] W fun e w' => e = .returned (.bool true) ∧ R w' := by
  have HK := Lib.hid (fun W => pick_any n 1024 W (by omega) (by omega) hn.1 hn.2)
  rw [← hm] at HK
  have hc2 : ((m : Int) % 16) = 8 := by omega
  have hm1 : m < 1024 := by omega
  have HS := Lib.hid hS
  clear hS
  clear hm hn hc
  go_enter Tryz.func5, Tryz.ntmps5
  go_wp2_with fail
  refine (HK.out _).mono ?_
  rintro e _ ⟨rfl, rfl⟩
  clear HK
  go_wp2_with fail
  refine HS.out.mono ?_
  rintro e w1 ⟨rfl, hR⟩
  have HR := Lib.hid hR
  clear hR HS
  go_wp2_with fail
  go_ret
  exact ⟨rfl, HR.out⟩
set_option maxHeartbeats 4000000 in
set_option maxRecDepth 100000 in
theorem act_h13 {W : World} (L : Nat) (fv : Value) (n : Int) (m : Nat) (hn : I64 n) (hm : (m : Int) = n % 1024) (hc : m % 16 = 13) (R : World → Prop)
    (hS : Calls Tryz.prog 10 #[.pointer (some ⟨L, 0, none⟩)] W fun e w' => e = .returned (.tuple #[]) ∧ R w') :
    Calls Tryz.prog 5 #[.pointer (some ⟨L, 0, none⟩), .int .i64 n, fv] W fun e w' => e = .returned (.bool true) ∧ R w' := by
  have HK := Lib.hid (fun W => pick_any n 1024 W (by omega) (by omega) hn.1 hn.2)
  rw [← hm] at HK
  have hc2 : ((m : Int) % 16) = 13 := by omega
  have hm1 : m < 1024 := by omega
  have HS := Lib.hid hS
  clear hS
  clear hm hn hc
  go_enter Tryz.func5, Tryz.ntmps5
  go_wp2_with fail
  refine (HK.out _).mono ?_
  rintro e _ ⟨rfl, rfl⟩
  clear HK
  go_wp2_with fail
  refine HS.out.mono ?_
  rintro e w1 ⟨rfl, hR⟩
  have HR := Lib.hid hR
  clear hR HS
  go_wp2_with fail
  go_ret
  exact ⟨rfl, HR.out⟩
set_option maxHeartbeats 4000000 in
set_option maxRecDepth 100000 in
theorem act_h14 {W : World} (L : Nat) (fv : Value) (n : Int) (m : Nat) (hn : I64 n) (hm : (m : Int) = n % 1024) (hc : m % 16 = 14) (R : World → Prop)
    (hS : Calls Tryz.prog 10 #[.pointer (some ⟨L, 0, none⟩)] W fun e w' => e = .returned (.tuple #[]) ∧ R w') :
    Calls Tryz.prog 5 #[.pointer (some ⟨L, 0, none⟩), .int .i64 n, fv] W fun e w' => e = .returned (.bool true) ∧ R w' := by
  have HK := Lib.hid (fun W => pick_any n 1024 W (by omega) (by omega) hn.1 hn.2)
  rw [← hm] at HK
  have hc2 : ((m : Int) % 16) = 14 := by omega
  have hm1 : m < 1024 := by omega
  have HS := Lib.hid hS
  clear hS
  clear hm hn hc
  go_enter Tryz.func5, Tryz.ntmps5
  go_wp2_with fail
  refine (HK.out _).mono ?_
  rintro e _ ⟨rfl, rfl⟩
  clear HK
  go_wp2_with fail
  refine HS.out.mono ?_
  rintro e w1 ⟨rfl, hR⟩
  have HR := Lib.hid hR
  clear hR HS
  go_wp2_with fail
  go_ret
  exact ⟨rfl, HR.out⟩
set_option maxHeartbeats 4000000 in
set_option maxRecDepth 100000 in
theorem act_i12 {W : World} (L : Nat) (fv : Value) (n : Int) (m : Nat) (hn : I64 n) (hm : (m : Int) = n % 1024) (hc : m % 16 = 12) (R : World → Prop)
    (hS : R W) :
    Calls Tryz.prog 5 #[.pointer (some ⟨L, 0, none⟩), .int .i64 n, fv] W fun e w' => e = .returned (.bool true) ∧ R w' := by
  have HK := Lib.hid (fun W => pick_any n 1024 W (by omega) (by omega) hn.1 hn.2)
  rw [← hm] at HK
  have hc2 : ((m : Int) % 16) = 12 := by omega
  have hm1 : m < 1024 := by omega
  clear hm hn hc
  go_enter Tryz.func5, Tryz.ntmps5
  go_wp2_with fail
  refine (HK.out _).mono ?_
  rintro e _ ⟨rfl, rfl⟩
  clear HK
  go_wp2_with fail
  go_ret
  exact ⟨rfl, hS⟩
theorem ints_slice {w : World} {a : Option Addr} {n cap l h : Nat} {V : Nat → Value} (hr : RowAt w a n V) (h1 : l ≤ h) (h2 : h ≤ n) (h3 : n ≤ cap) :
    ∃ a', (∀ W, (Instr.slice 22 (.slice a n cap) (some (.int .i64 (l : Int))) (some (.int .i64 (h : Int))) none).run Tryz.prog W = .ok (.slice a' (h - l) (cap - l)) W) ∧ RowAt w a' (h - l) (fun i => V (l + i)) := by
  have ht : Tryz.prog.underlying 22 = some (.slice (Tryz.prog.elem 22)) := by kernel_rfl
  have hz : ∀ W, (sizeOf (Tryz.prog.elem 22)).run Tryz.prog W = .ok 1 W := fun W => by
    rw [show Tryz.prog.elem 22 = 3 by kernel_rfl]; exact Tryz.sizeOf3 W
  refine ⟨if cap = l then a else a.map (·.add (l * 1)), fun W => ?_, fun i hi => ?_⟩
  · rw [run_slice_lh W 22 a n cap ht .i64 .i64 (l : Int) (h : Int) (by omega) (by omega) (by omega), hz]
    simp only [Result.andThen, sliced, Int.toNat_natCast]
  · obtain ⟨b, off, rfl, hb, hc⟩ := hr (l + i) (by omega)
    refine ⟨b, off + l, ?_, hb, ?_⟩
    · rw [if_neg (by omega)]
      simp only [Option.map_some, Addr.add, Nat.mul_one]
      split
      · rename_i h0; subst h0; rfl
      · rfl
    · rw [show off + l + i = off + (l + i) by omega]; exact hc
set_option maxHeartbeats 4000000 in
set_option maxRecDepth 100000 in
theorem act_f9 {W : World} (L : Nat) (fv : Value) (n : Int) (m : Nat) (hn : I64 n) (hm : (m : Int) = n % 1024) (hc : m % 16 = 9) (R : World → Prop) {sa : Option Addr} {sn sc at_ hi : Nat} {fa : Option Addr} {n1 n2 : Nat} (hfv : fv = .slice sa sn sc) (hsn : sn ≤ 1000) (hat : at_ = (m / 16) % (sn + 1)) (hhi : hi = min sn (at_ + 1 + m / 16 % 4))
    (hsl : ∀ W, (Instr.slice 22 fv (some (.int .i64 (at_ : Int))) (some (.int .i64 (hi : Int))) none).run Tryz.prog W = .ok (.slice fa n1 n2) W)
    (hS : Calls Tryz.prog 13 #[.pointer (some ⟨L, 0, none⟩), .slice fa n1 n2] W fun e w' => e = .returned (.tuple #[]) ∧ R w') :
    Calls Tryz.prog 5 #[.pointer (some ⟨L, 0, none⟩), .int .i64 n, fv] W fun e w' => e = .returned (.bool true) ∧ R w' := by
  have HK := Lib.hid (fun W => pick_any n 1024 W (by omega) (by omega) hn.1 hn.2)
  rw [← hm] at HK
  have hc2 : ((m : Int) % 16) = 9 := by omega
  have hm1 : m < 1024 := by omega
  have HS := Lib.hid hS
  clear hS
  subst hfv
  have HP2 := Lib.hid (fun W => pick_any ((m : Int) / 16) ((sn : Int) + 1) W (by omega) (by omega) (by omega) (by omega))
  rw [show ((m : Int) / 16) % ((sn : Int) + 1) = (at_ : Int) by rw [hat]; push_cast; rfl] at HP2
  have hat1 : at_ ≤ sn := by rw [hat]; exact Nat.le_of_lt_succ (Nat.mod_lt _ (by omega))
  have hmin : min (sn : Int) ((at_ : Int) + 1 + (m : Int) / 16 % 4) = (hi : Int) := by rw [hhi]; omega
  have hk4 : 0 ≤ (m : Int) / 16 % 4 := by omega
  have hk5 : (m : Int) / 16 % 4 ≤ 3 := by omega
  have hah : at_ ≤ hi := by rw [hhi]; omega
  have hhs : hi ≤ sn := by rw [hhi]; omega
  clear hat hhi
  clear hm hn hc
  go_enter Tryz.func5, Tryz.ntmps5
  go_wp2_with fail
  refine (HK.out _).mono ?_
  rintro e _ ⟨rfl, rfl⟩
  clear HK
  go_wp2_with fail
  refine (HP2.out _).mono ?_
  rintro e _ ⟨rfl, rfl⟩
  clear HP2
  have HS := HS
  go_wp2_with fail
  refine HS.out.mono ?_
  rintro e w1 ⟨rfl, hR⟩
  have HR := Lib.hid hR
  clear hR HS
  go_wp2_with fail
  go_ret
  exact ⟨rfl, HR.out⟩
set_option maxHeartbeats 4000000 in
set_option maxRecDepth 100000 in
theorem act_f10 {W : World} (L : Nat) (fv : Value) (n : Int) (m : Nat) (hn : I64 n) (hm : (m : Int) = n % 1024) (hc : m % 16 = 10) (R : World → Prop) {sa : Option Addr} {sn sc at_ hi : Nat} {fa : Option Addr} {n1 n2 : Nat} (hfv : fv = .slice sa sn sc) (hsn : sn ≤ 1000) (hat : at_ = (m / 16) % (sn + 1)) (hhi : hi = min sn (at_ + 1 + m / 16 % 4))
    (hsl : ∀ W, (Instr.slice 22 fv (some (.int .i64 (at_ : Int))) (some (.int .i64 (hi : Int))) none).run Tryz.prog W = .ok (.slice fa n1 n2) W)
    (hS : Calls Tryz.prog 13 #[.pointer (some ⟨L, 0, none⟩), .slice fa n1 n2] W fun e w' => e = .returned (.tuple #[]) ∧ R w') :
    Calls Tryz.prog 5 #[.pointer (some ⟨L, 0, none⟩), .int .i64 n, fv] W fun e w' => e = .returned (.bool true) ∧ R w' := by
  have HK := Lib.hid (fun W => pick_any n 1024 W (by omega) (by omega) hn.1 hn.2)
  rw [← hm] at HK
  have hc2 : ((m : Int) % 16) = 10 := by omega
  have hm1 : m < 1024 := by omega
  have HS := Lib.hid hS
  clear hS
  subst hfv
  have HP2 := Lib.hid (fun W => pick_any ((m : Int) / 16) ((sn : Int) + 1) W (by omega) (by omega) (by omega) (by omega))
  rw [show ((m : Int) / 16) % ((sn : Int) + 1) = (at_ : Int) by rw [hat]; push_cast; rfl] at HP2
  have hat1 : at_ ≤ sn := by rw [hat]; exact Nat.le_of_lt_succ (Nat.mod_lt _ (by omega))
  have hmin : min (sn : Int) ((at_ : Int) + 1 + (m : Int) / 16 % 4) = (hi : Int) := by rw [hhi]; omega
  have hk4 : 0 ≤ (m : Int) / 16 % 4 := by omega
  have hk5 : (m : Int) / 16 % 4 ≤ 3 := by omega
  have hah : at_ ≤ hi := by rw [hhi]; omega
  have hhs : hi ≤ sn := by rw [hhi]; omega
  clear hat hhi
  clear hm hn hc
  go_enter Tryz.func5, Tryz.ntmps5
  go_wp2_with fail
  refine (HK.out _).mono ?_
  rintro e _ ⟨rfl, rfl⟩
  clear HK
  go_wp2_with fail
  refine (HP2.out _).mono ?_
  rintro e _ ⟨rfl, rfl⟩
  clear HP2
  have HS := HS
  go_wp2_with fail
  refine HS.out.mono ?_
  rintro e w1 ⟨rfl, hR⟩
  have HR := Lib.hid hR
  clear hR HS
  go_wp2_with fail
  go_ret
  exact ⟨rfl, HR.out⟩
end
section
open Go.RowKit
set_option maxHeartbeats 8000000 in
set_option maxRecDepth 100000 in
theorem act_tick {w W : World} {c : Lc} {l : Ls} {fv : Value} {S : Fs} {ev : List Ev} {r : Bool} (n : Int) (m : Nat) (hn : I64 n) (hm : (m : Int) = n % 1024) (hc : m % 16 = 15) (hbad : l.bad = false) (hr : ((ev.length : Int) == 0) = r)
    (hT : ∀ (S1 : List Nat) (W1 : World), FopIn W1 c.gf S1 l.s → Calls Tryz.prog 11 #[.pointer (some ⟨c.gf, 0, none⟩), .int .i64 ((m : Int) / 16 % 60)] W1 fun e w' => ∃ v S', e = .returned (.tuple #[v, .int .i64 0]) ∧ Pt W1 w' c.gf S1 S' S ∧ Given W1 w' S1 S' ev v)
    (h : LkM w W c (lkCells c l) l) :
    Calls Tryz.prog 5 #[.pointer (some ⟨c.L, 0, none⟩), .int .i64 n, fv] W fun e w' => e = .returned (.bool r) ∧ LkIn w w' c.L { l with s := S } := by
  have HT := Lib.hid hT
  have HP := Lib.hid h
  have HK := Lib.hid (fun W => pick_any n 1024 W (by omega) (by omega) hn.1 hn.2)
  rw [← hm] at HK
  have hc2 : ((m : Int) % 16) = 15 := by omega
  have hm1 : m < 1024 := by omega
  have HR := Lib.hid hr
  have c0 := h.blk.cell 0
  simp only [lkCells, List.cons_append, List.nil_append, List.getElem?_cons_zero, List.getElem?_cons_succ, pt] at c0
  clear hT h hm hn hc hr
  go_enter Tryz.func5, Tryz.ntmps5
  go_wp2_with fail
  refine (HK.out _).mono ?_
  rintro e _ ⟨rfl, rfl⟩
  clear HK
  go_wp2_with fail
  obtain ⟨S1, hI, hlt, hgv⟩ := HP.out.fop.callG
  refine (HT.out S1 _ hI).mono ?_
  rintro e W2 ⟨v, S2, rfl, hP, hG⟩
  obtain ⟨hX, hQ, hR, hF⟩ := hgv hP hG
  have hP2 : LkM w W2 c (lkCells c { l with s := S }) { l with s := S } := HP.out.call hX hR
  obtain ⟨ea, ec, hev⟩ := qform hQ
  subst hev
  have c10 := hP2.blk.cell 10; have f10 := hP2.blk.free 10
  simp only [lkCells, List.cons_append, List.nil_append, List.getElem?_cons_zero, List.getElem?_cons_succ, hbad] at c10
  have e10 : (lkCells c { l with s := S }).set 10 (.bool false) = lkCells c { l with s := S } := by unfold lkCells; simp only [hbad]; rfl
  have hP3 := hP2.poke 10 (.bool false)
  rw [e10] at hP3
  have HP3 := Lib.hid hP3
  clear hI hlt hgv hP hG hX hQ hR hF hP2 hP3 e10 HT HP c0
  have hr := HR.out
  go_wp2_with fail
  go_ret
  first
    | exact ⟨rfl, c, rfl, HP3.out⟩
    | exact ⟨by rw [← HR.out]; rfl, c, rfl, HP3.out⟩
end
section
open Go.RowKit
set_option maxHeartbeats 1000000 in
set_option maxRecDepth 100000 in
theorem newAsm_ok (w : World) : Calls Tryz.prog 20 #[] w fun e w' => e = .returned (.pointer (some ⟨w.heap.size, 0, none⟩)) ∧ w' = w.alloc (Obj.cells #[.bool true, .bool false, .slice none 0 0] 112) := by
  go_enter Tryz.func20, Tryz.ntmps20
  go_wp2_with fail
  go_ret
  exact ⟨rfl, rfl⟩
theorem set0_frame (n : Int) (h0 : 0 ≤ n) (h1 : n ≤ 255) : setNextV 1 0 n = .tuple #[.agg #[.int .i64 1, .int .i64 0, .bool true, .bool true, .int .i64 0, .string (snData n)], .int .i64 0] := by
  have hg : (Tc.ctlOf 1 0 (snData n)).good = true := by
    rw [Tc.good_iff]
    refine ⟨⟨by show (0 : Int) ≤ 1; decide, by show (1 : Int) ≤ 255; decide, by show (0 : Int) ≤ 0; decide, by show (0 : Int) ≤ 255; decide, by show (0 : Int) ≤ 0; decide, by show (0 : Int) ≤ 7; decide, ?_, ?_⟩, rfl⟩
    · show 1 ≤ 3; decide
    · show 3 ≤ 200; decide
  unfold setNextV
  rw [if_pos ⟨h0, h1⟩, madeV_true _ _ _ hg]
theorem take_set0 (half s : Int) (h1 : 1 ≤ half) (h2 : half ≤ 127) (h3 : 0 ≤ s) (h4 : s ≤ 255) :
    takeF (Fm.start 1 half 0) ⟨1, 0, true, true, 0, snData s⟩ true = (⟨1, half, ⟨0, false, false, false, 1, s⟩⟩, false, 0) := by
  have e : (((UInt8.ofNat (s % 256).toNat).toNat : Nat) : Int) = s := by rw [← sn_byte s]; omega
  have hg : (Tc.mk 1 0 true true 0 (snData s)).good = true := by
    rw [Tc.good_iff]
    refine ⟨?_, rfl⟩
    show (0 : Int) ≤ 1 ∧ (1 : Int) ≤ 255 ∧ (0 : Int) ≤ 0 ∧ (0 : Int) ≤ 255 ∧ (0 : Int) ≤ 0 ∧ (0 : Int) ≤ 7 ∧ 1 ≤ 3 ∧ 3 ≤ 200
    omega
  have hc : (Tc.mk 1 0 true true 0 (snData s)).ctl3 = (false, s, true) := by
    unfold Tc.ctl3
    rw [hg]
    show (if true && true then dataV [130, 0, UInt8.ofNat (s % 256).toNat] else (false, 0, false)) = _
    simp only [Bool.and_self, if_true, dataV, and_self]
    rw [e]
  unfold takeF
  rw [hg]
  simp [bypassF, hc, Fm.start]
/-- The link at its beginning. -/
def link0 (k n0 : Nat) : Ls := { s := beginF (newF 1 0 k 100 50) 1 n0, f := ⟨1, k, ⟨0, false, false, false, 1, n0⟩⟩, ps := freshP, op := false, xs := [], sent := [], came := 0, frames := [], units := [], words := [], odd := false, bad := false, before := Tc.zero }
theorem link0_inv (k n0 : Nat) (hk : 1 ≤ k ∧ k ≤ 127) (hn : n0 ≤ 255) : LI k n0 (link0 k n0) [] [] [] 0 0 none := by
  refine { inv := ?_, frames := rfl, units := rfl, hN := Nat.zero_le _, byp := rfl, pk := ⟨(fun p hp => by cases hp), Nat.zero_le _⟩, sent := rfl, asm := AsmSt.start [] [], pf := freshP_fine, pd := rfl, odd := rfl, bad := rfl, bz := fun _ => rfl, bs := (fun p hp => by cases hp) }
  refine { hk := hk, hL := ⟨by decide, by decide⟩, htm := ⟨by decide, by decide⟩, serv := rfl, susp := rfl, due := rfl, win := rfl, craft := rfl, chan := rfl, limit := rfl, timeout := rfl, ev := rfl, last := rfl, clock := ⟨by show (1 : Int) ≤ 50; decide, by show (50 : Int) ≤ 50; decide⟩, tries := ?_, base := ?_, rest := rfl, bu := Nat.zero_le _, sl := Nat.zero_le _, wl := Nat.zero_le _, wm := (fun u hu => by cases hu), byp := (fun d hd => by cases hd), bl := Nat.zero_le _, fcraft := rfl, fhalf := rfl, fchan := rfl, flock := rfl, fbyp := ⟨by show (0 : Int) ≤ 1; decide, by show (1 : Int) ≤ 3; decide⟩, fnext := ?_, hacc := rfl, bN := Nat.zero_le _, Nb := Nat.zero_le _, acked := rfl, hup := rfl, u1 := (fun i hi => by cases hi), u2 := (fun i hi => by cases hi), u3 := List.Pairwise.nil, hdown := rfl, d1 := (fun x hx => by cases hx), d2 := List.Pairwise.nil, uz := (fun d hd => by cases hd), al := rfl }
  · show (1 : Int) ≤ 1 ∧ (1 : Int) ≤ ((100 : Nat) : Int); omega
  · show (n0 : Int) = ((n0 + 0 : Nat) : Int) % 256; omega
  · show (n0 : Int) = ((n0 + 0 : Nat) : Int) % 256; omega
set_option maxHeartbeats 8000000 in
set_option maxRecDepth 100000 in
theorem begin15_any (a b : Int) (k n0 : Nat) (w : World) (ha : I64 a) (hb : I64 b) (hk : (k : Int) = 1 + a % 127) (hn : (n0 : Int) = b % 256) :
    Calls Tryz.prog 4 #[.int .i64 a, .int .i64 b] w fun e w' => ∃ L, e = .returned (.tuple #[.pointer (some ⟨L, 0, none⟩), .bool true]) ∧ LkIn w w' L (link0 k n0) := by
  have PA := Lib.hid (fun W => pick_any a 127 W (by omega) (by omega) ha.1 ha.2)
  have PC := Lib.hid (fun W => pick_any b 256 W (by omega) (by omega) hb.1 hb.2)
  have hwa : IntKind.i64.wrap (1 + a % 127) = (k : Int) := by rw [hk]; exact IntWalk.i64_in _ (by omega)
  have hwk : IntKind.i64.wrap (2 * (k : Int)) = 2 * (k : Int) := IntWalk.i64_in _ (by omega)
  rw [← hn] at PC
  have hk1 : 1 ≤ (k : Int) := by omega
  have hk2 : (k : Int) ≤ 127 := by omega
  have hs1 : (n0 : Int) ≤ 255 := by omega
  clear ha hb hk hn
  go_enter Tryz.func4, Tryz.ntmps4
  go_wp2_with fail
  refine (PA.out _).mono ?_
  rintro e _ ⟨rfl, rfl⟩
  clear PA
  go_wp2_with fail
  refine (foNew_ok 1 0 k 100 50 _ (by omega) (by omega) (by omega) (by omega) hk1 hk2 (by omega) (by omega) (by omega) (by omega)).mono ?_
  rintro e w1 ⟨rfl, hL, hI⟩
  obtain ⟨gf, hgf⟩ : ∃ g, g = w.heap.size := ⟨_, rfl⟩
  rw [← hgf] at hI ⊢
  have HX := Lib.hid (show Fx w w1 gf [] (newF 1 0 k 100 50) from Fx.start hgf hL hI)
  clear hL hI hgf hwa
  go_wp2_with fail
  refine (New_ok 1 0 k _ (by omega) (by omega) (by omega) (by omega) hk1 hk2).mono ?_
  rintro e w2 ⟨rfl, hL, hB⟩
  obtain ⟨gg, hgg⟩ : ∃ g, g = w1.heap.size := ⟨_, rfl⟩
  rw [← hgg] at hB ⊢
  replace HX := Lib.hid (HX.out.add hL (Nat.le_of_eq hgg.symm) hB.lt)
  have HB := Lib.hid hB
  clear hL hB hgg hwk
  go_wp2_with fail
  refine (PC.out _).mono ?_
  rintro e _ ⟨rfl, rfl⟩
  clear PC
  have hSN := fun W => SetNext_any 1 0 n0 W
  rw [set0_frame n0 (by omega) hs1] at hSN
  have HSN := Lib.hid hSN
  clear hSN
  go_wp2_with fail
  refine (HSN.out _).mono ?_
  rintro e w3 ⟨rfl, hL⟩
  replace HX := Lib.hid (HX.out.below hL)
  replace HB := Lib.hid (HB.out.below hL HB.out.lt)
  clear hL HSN
  have hTK : ∀ (W1 : World), Blk W1 gg (Fm.start 1 k 0).cells 80 → Calls Tryz.prog 18 #[.pointer (some ⟨gg, 0, none⟩), .agg #[.int .i64 1, .int .i64 0, .bool true, .bool true, .int .i64 0, .string (snData n0)], .bool true] W1 fun e w' => e = .returned (.tuple #[.bool false, .int .i64 0]) ∧ Keep [gg] W1 w' ∧ Blk w' gg (Fm.mk 1 k ⟨0, false, false, false, 1, n0⟩).cells 80 := by
    intro W1 hB
    have := Take_any (Fm.start 1 k 0) ⟨1, 0, true, true, 0, snData n0⟩ true gg W1 ⟨hk1, hk2, by simp [Fm.start], by simp [Fm.start], by simp [Fm.start], by simp [Fm.start]⟩ hB
    rw [take_set0 k n0 hk1 hk2 (by omega) hs1] at this
    exact this
  have HTK := Lib.hid hTK
  clear hTK
  go_upto_region 8 with fail
  have hB4 := HB.out.alloc (Obj.cells #[.int .i64 1, .int .i64 0, .bool true, .bool true, .int .i64 0, .string (snData n0)] 37)
  have hX4 := HX.out.below ((Below.refl _ _).alloc (Nat.le_refl _) (Obj.cells #[.int .i64 1, .int .i64 0, .bool true, .bool true, .int .i64 0, .string (snData n0)] 37))
  have hY4 := Blk.new w3 [.int .i64 1, .int .i64 0, .bool true, .bool true, .int .i64 0, .string (snData n0)] 37
  obtain ⟨r, hr⟩ : ∃ r, r = w3.heap.size := ⟨_, rfl⟩
  rw [← hr] at hY4 ⊢
  refine gen_world (fun W' => Fx w W' gf [gg] (newF 1 0 k 100 50) ∧ Blk W' gg (Fm.start 1 k 0).cells 80 ∧ Blk W' r [.int .i64 1, .int .i64 0, .bool true, .bool true, .int .i64 0, .string (snData n0)] 37) ⟨hX4, hB4, hY4⟩ ?_
  clear hB4 hX4 hY4 HX HB hr
  rintro w4 ⟨hX, hB, hY⟩
  have HX := Lib.hid hX; have HB := Lib.hid hB; have HY := Lib.hid hY
  clear hX hB hY
  have y0 := HY.out.cell 0
  have y1 := HY.out.cell 1
  have y2 := HY.out.cell 2
  have y3 := HY.out.cell 3
  have y4 := HY.out.cell 4
  have y5 := HY.out.cell 5
  simp only [List.getElem?_cons_zero, List.getElem?_cons_succ] at y0 y1 y2 y3 y4 y5
  go_wp2_with fail
  refine (HTK.out _ HB.out).mono ?_
  rintro e w5 ⟨rfl, hK, hB⟩
  replace HX := Lib.hid (HX.out.far hK (fun i hi => .inl hi))
  have HB := Lib.hid hB
  clear hK hB HY HTK y0 y1 y2 y3 y4 y5
  go_wp2_with fail
  refine (clNew_any w5).mono ?_
  rintro e w6 ⟨rfl, hL, hPM⟩
  obtain ⟨P, hP⟩ : ∃ P, P = w5.heap.size := ⟨_, rfl⟩
  rw [← hP] at hPM ⊢
  have hPg : gg < P := by rw [hP]; exact HB.out.lt
  have hX6 := HX.out.add hL (Nat.le_of_eq hP.symm) hPM.blk.lt
  have hB6 := HB.out.below hL HB.out.lt
  have HX := Lib.hid hX6; have HB := Lib.hid hB6; have HPM := Lib.hid hPM
  clear hX6 hB6 hPM hL hP
  go_wp2_with fail
  refine (newAsm_ok w6).mono ?_
  rintro e w7 ⟨rfl, rfl⟩
  have hL7 : Below w6.heap.size w6 (w6.alloc (Obj.cells #[.bool true, .bool false, .slice none 0 0] 112)) := (Below.refl _ _).alloc (Nat.le_refl _) _
  have hAB := Blk.new w6 [.bool true, .bool false, .slice none 0 0] 112
  obtain ⟨A, hA⟩ : ∃ A, A = w6.heap.size := ⟨_, rfl⟩
  have hAP : P < A := by rw [hA]; exact HPM.out.blk.lt
  have hX7 := HX.out.add hL7 (Nat.le_of_eq hA.symm) (by rw [hA]; simp)
  have hB7 := HB.out.below hL7 HB.out.lt
  have hP7 := HPM.out.below hL7
  rw [← hA] at hAB ⊢
  obtain ⟨w7, hw7⟩ : ∃ w7, w7 = w6.alloc (Obj.cells #[.bool true, .bool false, .slice none 0 0] 112) := ⟨_, rfl⟩
  rw [← hw7] at hAB hX7 hB7 hP7 ⊢
  have HX := Lib.hid hX7; have HB := Lib.hid hB7; have HPM := Lib.hid hP7; have HA := Lib.hid hAB
  clear hX7 hB7 hP7 hAB hw7 hA hL7
  have hL8 : Below w7.heap.size w7 (w7.alloc (Obj.cells #[.pointer (some ⟨gf, 0, none⟩), .pointer (some ⟨gg, 0, none⟩), .pointer (some ⟨P, 0, none⟩), .pointer (some ⟨A, 0, none⟩), .slice none 0 0, .int .i64 0, .slice none 0 0, .slice none 0 0, .slice none 0 0, .bool false, .bool false, .int .i64 0, .int .i64 0, .bool false, .bool false, .int .i64 0, .string ⟨#[]⟩] 39)) := (Below.refl _ _).alloc (Nat.le_refl _) _
  have hLB := Blk.new w7 [.pointer (some ⟨gf, 0, none⟩), .pointer (some ⟨gg, 0, none⟩), .pointer (some ⟨P, 0, none⟩), .pointer (some ⟨A, 0, none⟩), .slice none 0 0, .int .i64 0, .slice none 0 0, .slice none 0 0, .slice none 0 0, .bool false, .bool false, .int .i64 0, .int .i64 0, .bool false, .bool false, .int .i64 0, .string ⟨#[]⟩] 39
  have hX8 := HX.out.alloc (Obj.cells #[.pointer (some ⟨gf, 0, none⟩), .pointer (some ⟨gg, 0, none⟩), .pointer (some ⟨P, 0, none⟩), .pointer (some ⟨A, 0, none⟩), .slice none 0 0, .int .i64 0, .slice none 0 0, .slice none 0 0, .slice none 0 0, .bool false, .bool false, .int .i64 0, .int .i64 0, .bool false, .bool false, .int .i64 0, .string ⟨#[]⟩] 39)
  have hB8 := HB.out.below hL8 HB.out.lt
  have hP8 := HPM.out.below hL8
  have hA8 := HA.out.below hL8 HA.out.lt
  obtain ⟨L, hLe⟩ : ∃ L, L = w7.heap.size := ⟨_, rfl⟩
  have hAL : A < L := by rw [hLe]; exact HA.out.lt
  rw [← hLe] at hLB hX8
  have hPA : LkM w (w7.alloc (Obj.cells #[.pointer (some ⟨gf, 0, none⟩), .pointer (some ⟨gg, 0, none⟩), .pointer (some ⟨P, 0, none⟩), .pointer (some ⟨A, 0, none⟩), .slice none 0 0, .int .i64 0, .slice none 0 0, .slice none 0 0, .slice none 0 0, .bool false, .bool false, .int .i64 0, .int .i64 0, .bool false, .bool false, .int .i64 0, .string ⟨#[]⟩] 39)) ⟨L, gf, gg, P, A, .slice none 0 0, .slice none 0 0, .slice none 0 0, .slice none 0 0, .slice none 0 0, .slice none 0 0, .slice none 0 0⟩ (lkCells ⟨L, gf, gg, P, A, .slice none 0 0, .slice none 0 0, .slice none 0 0, .slice none 0 0, .slice none 0 0, .slice none 0 0, .slice none 0 0⟩ { link0 k n0 with s := newF 1 0 k 100 50 }) { link0 k n0 with s := newF 1 0 k 100 50 } := by
    refine ⟨hLB, hX8.sub (fun r hr => ?_), hB8, hP8, ⟨hA8, row_nil _ _⟩, q_nil _ _ _ _, q_nil _ _ _ _, q_nil _ _ _ _, q_nil _ _ _ _, ?_⟩
    · simp [Lc.gs, Value.ownBlock] at hr
      simp
      omega
    · simp only [Lc.gs, Value.ownBlock, List.pairwise_cons, Option.toList_none, List.append_nil]
      refine ⟨?_, ?_, ?_, ?_, ?_, ?_, ?_, ?_, List.Pairwise.nil⟩ <;> (intro v hv i hi hm; simp at hi hv; try (rcases hv with rfl | rfl | rfl | rfl | rfl | rfl | rfl <;> simp at hm <;> omega); try (rcases hv with rfl | rfl | rfl <;> simp at hm <;> omega); try (rcases hv with rfl | rfl <;> simp at hm <;> omega); try (subst hv; simp at hm))
  have HPA := Lib.hid hPA
  clear hX8 hB8 hP8 hA8 hLB hPA HX HB HPM HA hL8
  go_wp2_with fail
  rw [← hLe]
  obtain ⟨S1, hI, hlt, hnx, hgv⟩ := HPA.out.fop.call
  refine (Begin_ok 1 n0 (newF 1 0 k 100 50) gf S1 _ (by omega) (by omega) (by omega) hs1 rfl (show (k : Int) ≠ 0 by omega) hI).mono ?_
  rintro e w9 ⟨rfl, hT⟩
  obtain ⟨hX, hR⟩ := hnx hT
  have HP2 := Lib.hid (HPA.out.call hX hR)
  clear hI hlt hnx hgv hX hR hT HPA
  go_wp2_with fail
  go_ret2
  refine ⟨L, ?_, _, rfl, HP2.out⟩
  rw [hLe]; rfl
end
end Go.Proofs.YtgopighmifpefaaGreatDoor
