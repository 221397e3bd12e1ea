/- What is proved here: a part of the proof of TopLink (texts Js). No condition. -/
import Derived.Laws.OwnMore
import Derived.Laws.MakeOwn
import Derived.Deep.CutBlock
import Derived.Test.YtgopighmifpefaaGreatDoorPart18
import Derived.Test.YtgopighmifpefaaGreatDoorPart19
import Derived.Test.YtgopighmifpefaaGreatDoorPart28
set_option linter.unusedVariables false
set_option linter.unusedSimpArgs false
namespace Go.Proofs.YtgopighmifpefaaGreatDoor
section
open Go.RowKit
theorem make_full (N : Nat) (h : N ≤ 1000000) : ∃ cur, (∀ W, (Instr.makeSlice 97 (.int .i64 (N : Int)) (.int .i64 (N : Int))).run Tryz.prog W = .ok (.slice (some ⟨W.heap.size, 0, none⟩) N N) (W.alloc (.cells cur 5))) ∧
    ∀ W : World, Row (W.alloc (.cells cur 5)) W.heap.size (.slice (some ⟨W.heap.size, 0, none⟩) N N) (List.replicate N 0) := by
  obtain ⟨i0, hi, hz0, hz1, hz2⟩ := info_parts info_u8
  refine ⟨madeCells (Value.int .u8 0).cells (N * i0.size), fun W => ?_, fun W => ?_⟩
  · have hr := run_make (P := Tryz.prog) W 97 5 i0 (.int .u8 0) Tryz.underlying97 hi hz0 .i64 .i64 (N : Int) (N : Int) (by omega) (by omega) (by rw [hz2]; omega) (by omega)
    simp only [Int.toNat_natCast] at hr
    exact hr
  · have hl : (madeCells (Value.int .u8 0).cells (N * i0.size)).toList = List.replicate N (.int .u8 0) := by
      rw [hz1, Nat.mul_one]; exact toList_madeCells_one _ _
    refine .inr ⟨W.heap.size, N, _, (0, 0), by simp, Nat.le_refl _, heap_alloc_new W _, .inl rfl, by simp, by unfold maxLen; omega, by rw [← Array.length_toList, hl]; simp, ?_⟩
    rw [hl]
    simp [vb]
/-- What holds while the parts are sent. -/
structure SndRel (w W : World) (c : Lc) (l : Ls) (g : Nat) (ss : List ByteArray) : Prop where
  lk : LkM w W c (lkCells c l) l
  fx : Fx w W c.gf (g :: c.gs.flatten) l.s
  row : ∀ i, i < ss.length → W.cell? ⟨g, i, none⟩ = some (.string (ss.getD i .empty))
  out : OutC c W g
section
variable {w W W' : World} {c : Lc} {l : Ls} {g : Nat} {ss : List ByteArray}
theorem SndRel.send (h : SndRel w W c l g ss) : ∃ S1, FopIn W c.gf S1 l.s ∧ (∀ i ∈ S1, i < W.heap.size) ∧ ∀ (W' : World) (s' : Fs), FopTo W W' c.gf S1 s' → SndRel w W' c { l with s := s' } g ss := by
  obtain ⟨S1, hI, hlt, hnx, -⟩ := h.fx.call
  refine ⟨S1, hI, hlt, fun W' s' k => ?_⟩
  obtain ⟨hX, hR⟩ := hnx k
  have hP := h.lk.call (hX.sub (fun r hr => List.mem_cons_of_mem _ hr)) (fun r hr => hR r (List.mem_cons_of_mem _ hr))
  have hlt2 : g < W'.heap.size := by
    obtain ⟨_, _, _, h3⟩ := hX
    exact (h3 g (by simp)).2.1
  exact ⟨hP, hX, fun i hi => (World.cell?_of_block (w := W) (a := ⟨g, i, none⟩) (hR g (by simp))).trans (h.row i hi), hlt2, h.out.2⟩
theorem SndRel.drew (h : SndRel w W c l g ss) : SndRel w W.drew c l g ss := ⟨h.lk.drew, h.fx.below ((Below.refl _ _).drew), h.row, h.out⟩
theorem SndRel.bad (h : SndRel w W c l g ss) (hb : l.bad = false) : SndRel w (W.setCell ⟨c.L, 10, none⟩ (.bool false)) c l g ss := by
  have e : (lkCells c l).set 10 (.bool false) = lkCells c l := by unfold lkCells; simp only [hb]; rfl
  have hP := h.lk.poke 10 (.bool false)
  rw [e] at hP
  have k : Keep [c.L] W (W.setCell ⟨c.L, 10, none⟩ (.bool false)) := (Keep.refl _ _).setCell (.inl (by simp)) _
  have hn : g ∉ [c.L] := fun hm => by simp at hm; exact h.out.2 (by rw [hm]; exact c.inL)
  exact ⟨hP, h.fx.far k (fun i hi => .inl (by simp at hi; subst hi; exact List.mem_cons_of_mem _ c.inL)), fun i hi => (k.cell (p := ⟨g, i, none⟩) h.out.1 hn).trans (h.row i hi), Nat.lt_of_lt_of_le h.out.1 k.size, h.out.2⟩
end
theorem LkM.other {w W W' : World} {c : Lc} {cs : List Value} {l : Ls} {g : Nat} (h : LkM w W c cs l) (hX : Fx w W c.gf (g :: c.gs.flatten) l.s) (hg : g ∉ c.gs.flatten) (k : Keep [g] W W') : LkM w W' c cs l := by
  have n : ∀ x ∈ c.gs.flatten, x ∉ [g] := fun x hx hm => by simp at hm; subst hm; exact hg hx
  exact ⟨h.blk.keep k (n _ c.inL), (hX.far k (fun i hi => .inl (by simp at hi; simp [hi]))).sub (fun r hr => List.mem_cons_of_mem _ hr), h.farm.keep k (n _ c.inG), h.par.keep k (n _ (c.inP _ (by simp))) (fun y hy => n _ (c.inP _ (by simp [hy]))) (fun y hy => n _ (c.inP _ (by simp [hy]))) (fun y hy => by cases hy),
    h.asm.keep k (n _ (c.inA _ (by simp))) (fun y hy => n _ (c.inA _ (by simp [hy]))), q_keep h.sent k (fun y hy => n _ (c.inS _ (by simp [hy]))), q_keep h.frames k (fun y hy => n _ (c.inF _ (by simp [hy]))), q_keep h.units k (fun y hy => n _ (c.inU _ (by simp [hy]))), q_keep h.words k (fun y hy => n _ (c.inW _ (by simp [hy]))), h.apart⟩
/-- What holds while the packet's data are made. -/
structure DatRel (w W : World) (c : Lc) (l : Ls) (g N : Nat) (xs : List UInt8) : Prop where
  lk : LkM w W c (lkCells c l) l
  fx : Fx w W c.gf (g :: c.gs.flatten) l.s
  row : Row W 0 (.slice (some ⟨g, 0, none⟩) N N) xs
  out : OutC c W g
theorem DatRel.set {w W : World} {c : Lc} {l : Ls} {g N : Nat} {xs : List UInt8} (h : DatRel w W c l g N xs) (i : Nat) (u : UInt8) : DatRel w (W.setCell ⟨g, i, none⟩ (vb u)) c l g N (xs.set i u) := by
  have k : Keep [g] W (W.setCell ⟨g, i, none⟩ (vb u)) := (Keep.refl _ _).setCell (.inl (by simp)) _
  exact ⟨h.lk.other h.fx h.out.2 k, h.fx.far k (fun i hi => .inl (by simp at hi; simp [hi])), row_set h.row i u, Nat.lt_of_lt_of_le h.out.1 k.size, h.out.2⟩
theorem sends_len (ss : List ByteArray) : ∀ s : Fs, (ss.foldl sendF s).waiting.length = s.waiting.length + ss.length ∧ (ss.foldl sendF s).last = s.last + ss.length ∧ (ss.foldl sendF s).service = s.service ∧ (ss.foldl sendF s).window = s.window := by
  induction ss with
  | nil => intro s; simp
  | cons d ds ih =>
    intro s
    obtain ⟨h1, h2, h3, h4⟩ := ih (sendF s d)
    simp only [List.foldl_cons, h1, h2, h3, h4, List.length_cons]
    refine ⟨?_, ?_, rfl, rfl⟩
    · show (s.waiting ++ [_]).length + _ = _
      simp; omega
    · show s.last + 1 + _ = _
      omega
theorem ramp_succ (c j : Nat) : rampL c (j + 1) = rampL c j ++ [UInt8.ofNat (c + j)] := by simp [rampL, List.range_succ]
theorem ramp_step (c j n : Nat) (h : j < n) : (rampL c j ++ List.replicate (n - j) 0).set j (UInt8.ofNat (c + j)) = rampL c (j + 1) ++ List.replicate (n - (j + 1)) 0 := by
  have e : n - j = (n - (j + 1)) + 1 := by omega
  rw [e, List.replicate_succ, List.set_append_right _ _ (by rw [rampL_len]; exact Nat.le_refl _), rampL_len, Nat.sub_self, List.set_cons_zero, ramp_succ, List.append_assoc]
  rfl
/-- The state behind a packet. -/
def sendS (l : Ls) (n m : Nat) : Ls :=
  if l.s.waiting.length + (segsP l.sent.length n m).length ≤ 256 then { l with s := (segsP l.sent.length n m).foldl sendF l.s, sent := l.sent ++ [pkB l.sent.length n] } else l
set_option maxHeartbeats 16000000 in
set_option maxRecDepth 100000 in
theorem send_walk {w W : World} {c : Lc} {l : Ls} (a b : Int) (n m : Nat) (ha : I64 a) (hb : I64 b) (hn : (n : Int) = a % 500) (hm : (m : Int) = b % 180) (hbad : l.bad = false) (hsl : l.sent.length < 700) (hsv : l.s.service = 2) (hwin : l.s.window ≠ 0) (hl0 : 0 ≤ l.s.last) (hl1 : l.s.last ≤ 1000000) (hwt : l.s.waiting.length ≤ 256)
    (h : LkM w W c (lkCells c l) l) :
    Calls Tryz.prog 22 #[.pointer (some ⟨c.L, 0, none⟩), .int .i64 a, .int .i64 b] W fun e w' => e = .returned (.tuple #[]) ∧ LkIn w w' c.L (sendS l (n + 1) (20 + m)) := by
  have HPK := Lib.hid (fun W => pick_any a 500 W (by decide) (by decide) ha.1 ha.2)
  have HPM := Lib.hid (fun W => pick_any b 180 W (by decide) (by decide) hb.1 hb.2)
  rw [← hn] at HPK
  rw [← hm] at HPM
  have hn5 : n < 500 := by omega
  have hm5 : m < 180 := by omega
  obtain ⟨cur, hmk, hrow⟩ := make_full (n + 1) (by omega)
  have hmk2 : ∀ W, (Instr.makeSlice 97 (.int .i64 (1 + (n : Int))) (.int .i64 (1 + (n : Int)))).run Tryz.prog W = .ok (.slice (some ⟨W.heap.size, 0, none⟩) (n + 1) (n + 1)) (W.alloc (.cells cur 5)) := fun W => by
    have := hmk W
    rwa [show ((n + 1 : Nat) : Int) = 1 + (n : Int) by omega] at this
  obtain ⟨cn, hcn⟩ : ∃ cn, cn = l.sent.length := ⟨_, rfl⟩
  have hpk := fun W => pkPut_any cn ⟨(rampL cn (n + 1)).toArray⟩ W (by omega) (by show 1 ≤ (rampL cn (n + 1)).toArray.size; simp [rampL_len]) (by show (rampL cn (n + 1)).toArray.size ≤ 1024; simp [rampL_len]; omega)
  have hpk2 : ∀ W, Calls Tryz.prog 44 #[.agg #[.bool true, .int .i64 0, .int .i64 3, .int .i64 (cn : Nat), .string ⟨(rampL cn (n + 1)).toArray⟩]] W fun e w' => e = .returned (.tuple #[.string (pkB cn (n + 1)), .int .i64 0]) ∧ Below W.heap.size W w' := hpk
  have hps := pk_size cn (n + 1)
  have hsg := fun W => Segments_ok (pkB cn (n + 1)) (20 + m) W (by rw [hps]; omega) (by rw [hps]; omega) (by omega) (by omega)
  rw [hps] at hsg
  have hss : segList (pkB cn (n + 1)) (20 + m) (segN (n + 1 + 6) (20 + m)) = segsP cn (n + 1) (20 + m) := rfl
  rw [hss] at hsg
  obtain ⟨ss, hss2⟩ : ∃ ss, ss = segsP cn (n + 1) (20 + m) := ⟨_, rfl⟩
  have hsz : ∀ d ∈ ss, 1 ≤ d.size ∧ d.size ≤ 200 := by
    intro d hd
    rw [hss2] at hd
    simp only [segsP, segList, List.mem_map, List.mem_range] at hd
    obtain ⟨j, hj, rfl⟩ := hd
    obtain ⟨_, a1, a2⟩ := fr_link 0 cn (n + 1) (20 + m) j (by decide) (by decide) (by omega) (by omega) (by omega) (by omega) (by omega) hj
    exact ⟨by omega, a2⟩
  have hs1 : 1 ≤ ss.length := by
    rw [hss2, segsP_len]
    exact (segN_spec (n + 1 + 6) (20 + m) (by omega) (by omega)).2.2
  have hs2 : ss.length ≤ 100000 := by
    rw [hss2, segsP_len]
    have h1 := (segN_spec (n + 1 + 6) (20 + m) (by omega) (by omega)).1
    have h2 : segN (n + 1 + 6) (20 + m) - 1 ≤ (segN (n + 1 + 6) (20 + m) - 1) * (20 + m) := Nat.le_mul_of_pos_right _ (by omega)
    omega
  have hSG : ∀ W, Calls Tryz.prog 45 #[.string (pkB cn (n + 1)), .int .i64 (20 + (m : Int))] W fun e w' => ∃ v, e = .returned (.tuple #[v, .int .i64 0]) ∧ SRow w' W.heap.size v ss ∧ Below W.heap.size W w' := fun W => by
    have := hsg W
    rw [← hss2, show ((20 + m : Nat) : Int) = 20 + (m : Int) by omega] at this
    exact this
  have hpost : sendS l (n + 1) (20 + m) = if l.s.waiting.length + ss.length ≤ 256 then { l with s := ss.foldl sendF l.s, sent := l.sent ++ [pkB cn (n + 1)] } else l := by
    unfold sendS
    rw [← hcn, ← hss2]
  rw [hpost]
  have HPKT := Lib.hid hpk2; have HSG := Lib.hid hSG; have HSZ := Lib.hid hsz
  have HL0 := Lib.hid hl0; have HL1 := Lib.hid hl1; have HSV := Lib.hid hsv; have HWN := Lib.hid hwin; have HBD := Lib.hid hbad
  have HDR : Hid (DatRel w (W.alloc (.cells cur 5)) c l W.heap.size (n + 1) (List.replicate (n + 1) 0)) := Lib.hid ⟨h.below ((Below.refl _ _).alloc (Nat.le_refl _) _), h.fop.alloc _, row_mono (hrow W) (Nat.zero_le _), ⟨by simp, fun hm => by have := (h.lt _ hm).2; omega⟩⟩
  have HCN := Lib.hid hcn
  have hcn7 : cn < 700 := by omega
  clear hpk hpk2 hsg hss hSG hsz hpost hps hmk hrow hss2 hl0 hl1 hsv hwin hbad hcn hsl h ha hb hn hm
  obtain ⟨pk, hpk⟩ : ∃ pk, pk = pkB cn (n + 1) := ⟨_, rfl⟩
  rw [← hpk] at HPKT HSG ⊢
  clear hpk
  go_enter Tryz.func22, Tryz.ntmps22
  go_wp2_with fail
  refine (HPK.out _).mono ?_
  rintro e _ ⟨rfl, rfl⟩
  clear HPK
  go_upto_region 1 with fail
  obtain ⟨g, hg⟩ : ∃ g, g = W.heap.size := ⟨_, rfl⟩
  rw [← hg] at HDR ⊢
  refine gen_world (fun W1 => DatRel w W1 c l g (n + 1) (List.replicate (n + 1) 0)) HDR.out ?_
  clear HDR hg hmk2
  rintro W1 hD
  have HD := Lib.hid hD
  clear hD
  go_upto_block 0 with fail
  go_cut [] (fun W2 => DatRel w W2 c l g (n + 1) (rampL cn (n + 1)))
  case first =>
    go_wp2_with fail
    go_loopw [7] (fun iv wr => ∃ j : Nat, j ≤ n + 1 ∧ iv = .int .i64 j ∧ DatRel w wr c l g (n + 1) (rampL cn j ++ List.replicate (n + 1 - j) 0)) (fun iv _ => n + 1 - (intOf iv).toNat)
    case atStart => exact ⟨0, Nat.zero_le _, rfl, HD.out⟩
    case round =>
      obtain ⟨j, hj, rfl, hR⟩ := hrel
      clear HD
      by_cases hlt : j < n + 1
      · obtain ⟨va, vc, hve⟩ := qform hR.lk.sent
        have c4 := hR.lk.blk.cell 4
        simp only [lkCells, List.cons_append, List.nil_append, List.getElem?_cons_zero, List.getElem?_cons_succ, hve] at c4
        rw [← HCN.out] at c4
        have hlen : j < (rampL cn j ++ List.replicate (n + 1 - j) 0).length := by simp [rampL_len]; omega
        obtain ⟨u0, d0⟩ : ∃ u0, wr.cell? ⟨g, j, none⟩ = some (vb u0) := ⟨_, row_byte hR.row j hlen⟩
        unfold vb at d0
        have f0 := row_free hR.row rfl j hlen
        have hR2 := hR.set j (UInt8.ofNat (cn + j))
        rw [ramp_step cn j (n + 1) hlt] at hR2
        have hvb : vb (UInt8.ofNat (cn + j)) = .int .u8 (((cn : Int) + (j : Int)) % 256) := by
          unfold vb
          congr 1
        rw [hvb] at hR2
        have HR2 := Lib.hid hR2
        have hlt2 : (j : Int) < (n : Int) + 1 := by omega
        clear hR hR2 hvb hlen hve
        go_wp2_with fail
        go_roundw
        case rel => exact ⟨j + 1, by omega, by go_num, by first | exact HR2.out | (rw [IntKind.wrap_u8']; exact HR2.out)⟩
        case measure => simp [intOf]; omega
      · obtain rfl : j = n + 1 := by omega
        have hR3 := hR
        rw [Nat.sub_self, List.replicate_zero, List.append_nil] at hR3
        have HR3 := Lib.hid hR3
        clear hR hR3
        go_wp2_with fail
        go_meet
        exact HR3.out
  case rest =>
    have hcv := run_string (w := wc.drew) hcut.row
    have HP := Lib.hid hcut.lk
    clear hcut HD
    obtain ⟨va, vc, hve⟩ := qform HP.out.sent
    have c4 := HP.out.blk.cell 4
    simp only [lkCells, List.cons_append, List.nil_append, List.getElem?_cons_zero, List.getElem?_cons_succ, hve] at c4
    rw [← HCN.out] at c4
    go_upto_region 5 with fail
    go_cut [8, 9] (fun p8 p9 W2 => p8 = .string pk ∧ p9 = .int .i64 0 ∧ LkM w W2 c (lkCells c l) l)
    case first =>
      go_region_with (first | (go_at_call 44; refine (HPKT.out _).mono ?_; rintro e W2 ⟨rfl, hL⟩) | fail)
      all_goals
        have hP2 := HP.out.drew.below hL
        clear hL hcv c4 hve
        go_wp2_with fail
        go_meet
        exact ⟨rfl, rfl, hP2⟩
    case rest =>
      obtain ⟨rfl, rfl, hP⟩ := hcut
      clear HP hcv c4 hve HPKT
      have HP := Lib.hid hP
      clear hP
      go_wp2_with fail
      refine (HPM.out _).mono ?_
      rintro e _ ⟨rfl, rfl⟩
      go_wp2_with fail
      refine (HSG.out _).mono ?_
      rintro e W3 ⟨v, rfl, hSR, hL⟩
      obtain ⟨aa, cap, hve, hcl⟩ := srow_form hSR
      subst hve
      obtain ⟨g2, hg2, -⟩ := hcl 0 (by omega)
      subst hg2
      have hbb := World.ownsRow.lt hSR g2 rfl
      have hS : SndRel w W3 c l g2 ss := ⟨HP.out.below hL, HP.out.fop.add hL hbb.1 hbb.2, fun i hi => (by obtain ⟨g3, e, h3⟩ := hcl i hi; injection e with e; injection e with e1; subst e1; exact h3), hbb.2, fun hm => by have := (HP.out.lt _ hm).2; omega⟩
      have HS := Lib.hid hS
      clear hS hSR hcl hbb hL HP HSG HPM
      have c0 := HS.out.lk.blk.cell 0
      simp only [lkCells, List.cons_append, List.nil_append, List.getElem?_cons_zero, List.getElem?_cons_succ, pt] at c0
      go_wp2_with fail
      obtain ⟨S1, hI, hlt, hnx⟩ := HS.out.send
      refine (Waiting_in l.s c.gf S1 _ HWN.out hI).mono ?_
      rintro e _ ⟨rfl, rfl⟩
      clear hI hlt hnx c0
      by_cases hfit : l.s.waiting.length + ss.length ≤ 256
      · have k1 : ¬ (256 : Int) < (l.s.waiting.length : Int) + (ss.length : Int) := by omega
        have HFIT := Lib.hid hfit
        obtain ⟨sj, hsj⟩ : ∃ sj : Nat → Fs, sj = fun j => (ss.take j).foldl sendF l.s := ⟨_, rfl⟩
        have j0 : sj 0 = l.s := by rw [hsj]; rfl
        have j1 : ∀ j, (h : j < ss.length) → sj (j + 1) = sendF (sj j) ss[j] := fun j h => by
          rw [hsj]
          simp only
          rw [List.take_succ_eq_append_getElem h, List.foldl_append]
          rfl
        have j2 : ∀ j, j ≤ ss.length → (sj j).waiting.length = l.s.waiting.length + j ∧ (sj j).last = l.s.last + j ∧ (sj j).service = 2 ∧ (sj j).window ≠ 0 := fun j h => by
          rw [hsj]
          simp only
          obtain ⟨q1, q2, q3, q4⟩ := sends_len (ss.take j) l.s
          rw [List.length_take, Nat.min_eq_left h] at q1 q2
          exact ⟨q1, q2, q3.trans HSV.out, by rw [q4]; exact HWN.out⟩
        have j3 : ss.foldl sendF l.s = sj ss.length := by rw [hsj]; simp
        have J3 := Lib.hid j3
        have J0 := Lib.hid j0; have J1 := Lib.hid j1; have J2 := Lib.hid j2
        clear hsj j0 j1 j2 j3
        go_upto_block 2 with fail
        go_cut [] (fun W2 => SndRel w W2 c { l with s := sj ss.length } g2 ss)
        case first =>
          go_wp2_with fail
          go_loopw [12] (fun iv wr => ∃ j : Nat, j ≤ ss.length ∧ iv = .int .i64 j ∧ SndRel w wr c { l with s := sj j } g2 ss) (fun iv _ => ss.length - (intOf iv).toNat)
          case atStart => exact ⟨0, Nat.zero_le _, rfl, by rw [J0.out]; exact HS.out⟩
          case round =>
            obtain ⟨j, hj, rfl, hR⟩ := hrel
            clear HS
            by_cases hlt : j < ss.length
            · obtain ⟨d, hd⟩ : ∃ d, d = ss[j] := ⟨_, rfl⟩
              have d0 := hR.row j hlt
              rw [show ss.getD j .empty = d by rw [hd, List.getD_eq_getElem?_getD, List.getElem?_eq_getElem hlt]; rfl] at d0
              have hdz := HSZ.out d (by rw [hd]; exact List.getElem_mem hlt)
              have hunf : unfitF d = false := by unfold unfitF; rw [Bool.or_eq_false_iff]; exact ⟨by rw [beq_eq_false_iff_ne]; omega, by rw [decide_eq_false_iff_not]; omega⟩
              obtain ⟨w1, w2, w3, w4⟩ := J2.out j hj
              have hl0 := HL0.out; have hl1 := HL1.out
              have hsd := fun (S : List Nat) (W : World) (hi : FopIn W c.gf S (sj j)) => Send_ok (sj j) c.gf S W d hunf w3 (by omega) (by omega) (by omega) w4 hi
              rw [show sendF (sj j) d = sj (j + 1) by rw [J1.out j hlt, hd]] at hsd
              have HSD := Lib.hid hsd
              have c0 := hR.lk.blk.cell 0
              simp only [lkCells, List.cons_append, List.nil_append, List.getElem?_cons_zero, List.getElem?_cons_succ, pt] at c0
              have HR := Lib.hid hR
              clear hR hsd hd hdz hunf w1 w2 w3 w4 hl0 hl1
              go_upto_region 13 with fail
              go_cut [13, 14] (fun p13 p14 W2 => p14 = .int .i64 0 ∧ SndRel w W2 c { l with s := sj (j + 1) } g2 ss)
              case first =>
                obtain ⟨S1, hI, hlS, hnx⟩ := HR.out.drew.send
                have HI := Lib.hid hI; have HNX := Lib.hid hnx
                clear hI hlS hnx
                go_region_with (first | (go_at_call 46; refine (HSD.out S1 _ HI.out).mono ?_; rintro e W2 ⟨rfl, hT⟩) | fail)
                all_goals
                  have hR2 := HNX.out _ _ hT
                  clear hT HNX HI HSD d0 c0
                  go_wp2_with fail
                  go_meet
                  exact ⟨rfl, hR2⟩
              case rest =>
                obtain ⟨rfl, hR2⟩ := hcut
                have c10 := hR2.lk.blk.cell 10; have f10 := hR2.lk.blk.free 10
                simp only [lkCells, List.cons_append, List.nil_append, List.getElem?_cons_zero, List.getElem?_cons_succ, HBD.out] at c10
                have HR2 := Lib.hid (hR2.bad HBD.out)
                clear hR2 HR HSD d0 c0
                go_wp2_with fail
                go_roundw
                case rel => exact ⟨j + 1, by omega, by go_num, HR2.out⟩
                case measure => simp [intOf]; omega
            · obtain rfl : j = ss.length := by omega
              have HR := Lib.hid hR
              clear hR
              go_wp2_with fail
              go_meet
              exact HR.out
        case rest =>
          have HP := Lib.hid hcut.lk
          have HSL := Lib.hid (show ({ l with s := sj ss.length } : Ls).sent = l.sent from rfl)
          clear hcut HS J0 J1 J2
          obtain ⟨l1, hl1⟩ : ∃ l1 : Ls, l1 = { l with s := sj ss.length } := ⟨_, rfl⟩
          rw [← hl1] at HP
          have hls : l1.sent.length ≤ 1000000 := by rw [hl1]; show l.sent.length ≤ _; rw [← HCN.out]; omega
          have hpost : ({ l with s := ss.foldl sendF l.s, sent := l.sent ++ [pk] } : Ls) = { l1 with sent := l1.sent ++ [pk] } := by rw [hl1, J3.out]
          have HPO := Lib.hid hpost
          clear hl1 hpost J3 HSL
          obtain ⟨i0, hi0, hz0, hz1, hz2⟩ := info_parts info_s1
          have HX := Lib.hid (Blk.new wc [.string pk] 9)
          have hL : Below wc.heap.size wc (wc.alloc (Obj.cells #[.string pk] 9)) := (Below.refl _ _).alloc (Nat.le_refl _) _
          have HL := Lib.hid hL
          have HI := Lib.hid hi0; have HZ0 := Lib.hid hz0; have HZ1 := Lib.hid hz1; have HZ2 := Lib.hid hz2
          obtain ⟨sa, sc, hsv⟩ := qform HP.out.sent
          have c4 := HP.out.blk.cell 4
          have e4 := (HP.out.below hL).blk.cell 4
          simp only [lkCells, List.cons_append, List.nil_append, List.getElem?_cons_zero, List.getElem?_cons_succ, hsv] at c4 e4
          have HSV2 := Lib.hid hsv
          clear hL hi0 hz0 hz1 hz2 hsv
          go_wp2_with (refine wpList_append_q _ rfl _ _ 33 9 1 16 i0 (.string ⟨#[]⟩) rfl Tryz.underlying33 HI.out HZ0.out rfl HZ1.out HZ2.out 0 (.slice sa l1.sent.length sc) l1.sent.length _ rfl (by rw [← HSV2.out]; exact q_below HP.out.sent HL.out (Nat.le_refl _)) wc.heap.size 0 1 1 [.string pk] rfl rfl (by intro u hu; simp at hu; subst hu; rfl) (fun j u hj => by rw [Nat.zero_add]; exact (HX.out.cell j).trans hj) (by omega) (by unfold maxLen; omega) (Nat.zero_le _) ?_)
          intro v' Wd hq2 hk2 hm2
          rw [← HSV2.out] at hk2 hm2
          obtain ⟨hP3, -⟩ := HP.out.pushS (q := l1.sent ++ [pk]) HL.out hk2 (by simpa using hm2) (by simpa [stRow_snoc] using hq2)
          obtain ⟨ra, rc, hve⟩ := qform hq2
          subst hve
          have c4 := hP3.blk.cell 4; have f4 := hP3.blk.free 4
          simp only [lkCells, List.cons_append, List.nil_append, List.getElem?_cons_zero, List.getElem?_cons_succ, HSV2.out] at c4
          have hP4 := hP3.poke 4 (.slice ra (l1.sent.length + 1) rc)
          have HP4 := Lib.hid hP4
          clear hP3 hP4 hq2 hk2 hm2 e4
          go_wp2_with fail
          go_end0
          refine ⟨rfl, { c with sv := .slice ra (l1.sent.length + 1) rc }, rfl, ?_⟩
          rw [HPO.out]
          exact HP4.out
      · have k1 : (256 : Int) < (l.s.waiting.length : Int) + (ss.length : Int) := by omega
        simp only [if_neg hfit]
        go_wp2_with fail
        exact bodyPost_ret (v := .tuple #[]) (by simp [results, Tryz.results22, go_sem]) rfl ⟨rfl, c, rfl, HS.out.lk⟩
end
end Go.Proofs.YtgopighmifpefaaGreatDoor
