/- What is proved here: the walk of the reference's Get. -/
import Derived.Test.YtebgehmgjafblaaG2
import Derived.Test.YtebgehmgjafblaaC6
import Derived.Deep.DeepCutAuto
set_option linter.unusedVariables false
set_option linter.unusedSimpArgs false
namespace Go.Proofs.Ytebgehmgjafblaa
open Go.RowKit
theorem nat2_ext (b : ByteArray) (i j : Nat) (h1 : i + 2 ≤ j) (h2 : j ≤ b.size) : nat2 (b.extract i j) 0 = nat2 b i := by
  have hl : b.data.toList.length = b.size := by rw [← Lib.size_eq]
  have he : (b.extract i j).data.toList = (b.data.toList.drop i).take (j - i) := by simp [ByteArray.data_extract, Array.toList_extract, List.extract_eq_take_drop]
  unfold nat2
  rw [he]
  simp only [List.getD_eq_getElem?_getD]
  rw [List.getElem?_take_of_lt (by omega), List.getElem?_take_of_lt (by omega), List.getElem?_drop, List.getElem?_drop]
  rfl
set_option maxHeartbeats 4000000 in
set_option maxRecDepth 100000 in
theorem rnumber_any (b : ByteArray) (w : World) (h : 2 ≤ b.size) : Calls Try.prog 67 #[.string b] w fun e w' => e = .returned (.int .i64 (nat2 b 0 : Nat)) ∧ w' = w.drew := by
  have k0 : (0 : Int) < b.size := by omega
  have k1 : (1 : Int) < b.size := by omega
  have hl : b.data.toList.length = b.size := by rw [← Lib.size_eq]
  have g0 : b.data.toList.getD 0 0 = b[0]'(by omega) := by
    rw [List.getD_eq_getElem?_getD, List.getElem?_eq_getElem (by omega)]; rfl
  have g1 : b.data.toList.getD (0 + 1) 0 = b[1]'(by omega) := by
    rw [List.getD_eq_getElem?_getD, List.getElem?_eq_getElem (by omega)]; rfl
  have hx := (b[0]'(by omega)).toNat_lt
  have hy := (b[1]'(by omega)).toNat_lt
  unfold nat2
  rw [g0, g1]
  obtain ⟨x, hxx⟩ : ∃ x, x = (b[0]'(by omega)).toNat := ⟨_, rfl⟩
  obtain ⟨y, hyy⟩ : ∃ y, y = (b[1]'(by omega)).toNat := ⟨_, rfl⟩
  rw [← hxx] at hx ⊢
  rw [← hyy] at hy ⊢
  have hxi : ((b[0]'(by omega)).toNat : Int) = (x : Int) := by rw [hxx]
  have hyi : ((b[1]'(by omega)).toNat : Int) = (y : Int) := by rw [hyy]
  have i1 : IntKind.i64.wrap (x : Int) = (x : Int) := IntWalk.i64_in _ (by omega)
  have i2 : IntKind.i64.wrap (y : Int) = (y : Int) := IntWalk.i64_in _ (by omega)
  have i3 : IntKind.i64.wrap ((x : Int) * 256) = (x : Int) * 256 := IntWalk.i64_in _ (by omega)
  have i4 : IntKind.i64.wrap ((x : Int) * 256 + (y : Int)) = (x : Int) * 256 + (y : Int) := IntWalk.i64_in _ (by omega)
  clear hxx hyy g0 g1
  go_enter Try.func67, Try.ntmps67
  go_wp2_with fail
  go_region
  go_wp2_with fail
  go_ret
  exact ⟨congrArg (fun n => Ending.returned (Value.int .i64 n)) (show (x : Int) * 256 + (y : Int) = ((x * 256 + y : Nat) : Int) by omega), rfl⟩
set_option maxHeartbeats 4000000 in
set_option maxRecDepth 100000 in
theorem rGet_short (b : ByteArray) (w : World) (h : b.size ≤ 7 ∨ 207 < b.size) : Calls Try.prog 48 #[.string b] w fun e w' => e = .returned (getV b) ∧ Below w.heap.size w w' := by
  unfold getV
  rw [if_pos h]
  have HL := Lib.hid ((Below.refl w.heap.size w).alloc (Nat.le_refl _) (Obj.cells Tc.zero.cells.toArray 30))
  by_cases h1 : b.size < 8
  · have k1 : (b.size : Int) < 8 := by omega
    clear h h1
    go_enter Try.func48, Try.ntmps48
    go_wp2_with fail
    refine ret_cell_tmp rfl w.heap.size 30 Tc.zero.cells rfl (Blk.new w _ _) Try.underlying30 rfl (by kernel_rfl) rfl ?_
    exact ⟨rfl, HL.out⟩
  · have k1 : ¬ (b.size : Int) < 8 := by omega
    have k2 : (207 : Int) < b.size := by omega
    clear h h1
    go_enter Try.func48, Try.ntmps48
    go_wp2_with fail
    refine ret_cell_tmp rfl w.heap.size 30 Tc.zero.cells rfl (Blk.new w _ _) Try.underlying30 rfl (by kernel_rfl) rfl ?_
    exact ⟨rfl, HL.out⟩
set_option maxHeartbeats 8000000 in
set_option maxRecDepth 100000 in
theorem rGet_long (b : ByteArray) (w : World) (h1 : 8 ≤ b.size) (h2 : b.size ≤ 207) : Calls Try.prog 48 #[.string b] w fun e w' => e = .returned (getV b) ∧ Below w.heap.size w w' := by
  obtain ⟨m, hm⟩ : ∃ m, b.size = m + 2 := ⟨b.size - 2, by omega⟩
  have hn := fun w => rnumber_any (b.extract m b.size) w (by simp; omega)
  rw [nat2_ext b m b.size (by omega) (by omega)] at hn
  have hsum := fun w => rSum16 (b.extract 0 m) w (by simp; omega)
  have hok : sumOk b = decide (nat2 b m = (sum16 (b.extract 0 m).data.toList).toNat) := by
    unfold sumOk
    rw [show b.size - 2 = m by omega]
  obtain ⟨x, hx⟩ : ∃ x, x = nat2 b m := ⟨_, rfl⟩
  have hx2 : x < 65536 := by rw [hx]; exact nat2_lt _ _
  obtain ⟨y, hy⟩ : ∃ y, y = (sum16 (b.extract 0 m).data.toList).toNat := ⟨_, rfl⟩
  have hy2 : y < 65536 := by rw [hy]; exact (sum16 _).isLt
  rw [← hx] at hn hok
  rw [show w16 (sum16 (b.extract 0 m).data.toList) = (y : Int) by rw [hy]; rfl] at hsum
  rw [← hy] at hok
  have HN := Lib.hid hn; have HSUM := Lib.hid hsum; have HM := Lib.hid hm; have HOK := Lib.hid hok
  have k1 : ¬ (b.size : Int) < 8 := by omega
  have k2 : ¬ (207 : Int) < b.size := by omega
  have hmw : IntKind.i64.wrap ((b.size : Int) - 2) = (m : Int) := by
    rw [hm]; rw [IntWalk.i64_in _ (by omega)]; omega
  have hmb : (m : Int) ≤ b.size := by omega
  have hyw : IntKind.i64.wrap (y : Int) = (y : Int) := IntWalk.i64_in _ (by omega)
  have HL := Lib.hid ((Below.refl w.heap.size w).alloc (Nat.le_refl _) (Obj.cells Tc.zero.cells.toArray 30))
  have HZ := Lib.hid (Blk.new w Tc.zero.cells 30)
  clear hn hsum hm hok hx hy hx2 hy2
  go_enter Try.func48, Try.ntmps48
  go_upto_region 4 with fail
  go_cut [30] (fun p w' => p = .bool ((x : Int) != (y : Int)) ∧ Below w.heap.size w w' ∧ Blk w' w.heap.size Tc.zero.cells 30)
  case first =>
    go_region_with (first | (go_at_call 67; refine (HN.out _).mono ?_; rintro e w' ⟨rfl, rfl⟩) | (go_at_call 60; refine (HSUM.out _).mono ?_; rintro e w' ⟨rfl, rfl⟩))
    all_goals (go_wp2_with fail; go_meet; first | exact ⟨rfl, HL.out.drew.drew, HZ.out.drew.drew⟩ | trace_state)
  case rest =>
    obtain ⟨rfl, hL4, hZ4⟩ := hcut
    have HL4 := Lib.hid hL4; have HZ4 := Lib.hid hZ4
    clear hL4 hZ4 HL HZ HN HSUM k1 k2 hyw
    by_cases hxy : x = y
    · have hne : ((x : Int) != (y : Int)) = false := by simp [hxy]
      have HXY := Lib.hid hxy
      clear hxy
      have hrd := fun w => rnumber_any b w (by omega)
      have hrs := fun w => rnumber_any (b.extract 2 4) w (by simp; omega)
      rw [nat2_ext b 2 4 (by omega) (by omega)] at hrs
      have hH2 := nat2_lt b 0
      have hS2 := nat2_lt b 2
      obtain ⟨H, hH⟩ : ∃ n, n = nat2 b 0 := ⟨_, rfl⟩
      obtain ⟨S, hS⟩ : ∃ n, n = nat2 b 2 := ⟨_, rfl⟩
      rw [← hH] at hrd hH2
      rw [← hS] at hrs hS2
      have HRD := Lib.hid hrd; have HRS := Lib.hid hrs; have HH := Lib.hid hH; have HS := Lib.hid hS
      have k4 : (4 : Int) < b.size := by omega
      have k4b : (4 : Int) ≤ b.size := by omega
      have i3 : IntKind.i64.wrap ((b[4]'(by omega)).toNat : Int) = ((b[4]'(by omega)).toNat : Int) := IntWalk.i64_in _ (by have := (b[4]'(by omega)).toNat_lt; omega)
      have k5 : (5 : Int) ≤ m := by have := HM.out; omega
      have j1 : IntKind.i64.wrap ((S : Int) / 1024) = (S : Int) / 1024 := IntWalk.i64_in _ (by omega)
      have j2 : IntKind.i64.wrap ((H : Int) / 8192) = (H : Int) / 8192 := IntWalk.i64_in _ (by omega)
      have j3 : IntKind.i64.wrap ((H : Int) / 4096) = (H : Int) / 4096 := IntWalk.i64_in _ (by omega)
      have j4 : (H : Int).tmod 1024 = (H : Int) % 1024 := Int.tmod_eq_emod_of_nonneg (by omega)
      have j5 : ((H : Int) / 8192).tmod 2 = (H : Int) / 8192 % 2 := Int.tmod_eq_emod_of_nonneg (by omega)
      have j6 : ((H : Int) / 4096).tmod 2 = (H : Int) / 4096 % 2 := Int.tmod_eq_emod_of_nonneg (by omega)
      clear hrd hrs hH hS
      go_wp2_with fail
      refine (HRD.out _).mono ?_
      rintro e w5 ⟨rfl, rfl⟩
      have hzl : w.heap.size < wc.heap.size := HZ4.out.lt
      have hnF : wc.heap.size ≠ w.heap.size := by omega
      have HL5 := Lib.hid HL4.out.drew
      have HZ5 := Lib.hid HZ4.out.drew
      clear HL4 HZ4
      go_upto_region 7 with fail
      go_cut [6] (fun p w' => ∃ F, p = .pointer (some ⟨F, 0, none⟩) ∧ F ≠ w.heap.size ∧ Below w.heap.size w w' ∧ Blk w' w.heap.size Tc.zero.cells 30 ∧ Blk w' F [.int .i64 ((H : Int) % 1024), .int .i64 ((S : Int) / 1024), .bool (((H : Int) / 8192 % 2) == 1), .bool (((H : Int) / 4096 % 2) == 1), .int .i64 ((b[4]'(by omega)).toNat : Int), .string (b.extract 5 m)] 30)
      case first =>
        go_region_with (go_at_call 67; refine (HRS.out _).mono ?_; rintro e w7 ⟨rfl, rfl⟩)
        all_goals (go_wp2_with fail; go_meet; refine ⟨_, rfl, hnF, ?_, (HZ5.out.alloc _), Blk.new wc _ _⟩; first | exact (HL5.out.alloc HL5.out.size _).drew.drew | exact (HL5.out.alloc HL5.out.size _).drew | exact (HL5.out.alloc HL5.out.size _) | exact (HL5.out.alloc HL5.out.size _).drew.drew.drew | trace_state)
      case rest =>
        obtain ⟨F, rfl, hFne, hL8, hZ8, hF8⟩ := hcut
        have HL8 := Lib.hid hL8; have HZ8 := Lib.hid hZ8; have HF8 := Lib.hid hF8
        clear hL8 hZ8 hF8 HL5 HZ5 i3 HRD HRS k4 k4b k5 hmb j1 j2 j3 j4 j5 j6
        have hg4 : b[4]'(by omega) = b.data.toList.getD 4 0 := by
          rw [List.getD_eq_getElem?_getD, List.getElem?_eq_getElem (by rw [← Lib.size_eq]; omega)]
          rfl
        obtain ⟨t, htc⟩ : ∃ t : Tc, t = ⟨(H : Int) % 1024, (S : Int) / 1024, ((H : Int) / 8192 % 2) == 1, ((H : Int) / 4096 % 2) == 1, ((b[4]'(by omega)).toNat : Int), b.extract 5 m⟩ := ⟨_, rfl⟩
        have htg : t = getTc b := by
          have e1 : (((H : Int) / 8192 % 2) == 1) = decide (H / 8192 % 2 = 1) := by rw [Bool.eq_iff_iff]; simp; omega
          have e2 : (((H : Int) / 4096 % 2) == 1) = decide (H / 4096 % 2 = 1) := by rw [Bool.eq_iff_iff]; simp; omega
          rw [htc, e1, e2, HH.out, HS.out, hg4]
          unfold getTc
          rw [show b.size - 2 = m by have := HM.out; omega]
          rfl
        have hV : getV b = if t.good && decide (t.enc = b.data.toList) then .tuple #[t.val, .int .i64 0] else getBad 6 := by
          have hsk : sumOk b = true := by rw [HOK.out]; exact decide_eq_true HXY.out
          unfold getV
          rw [if_neg (by omega), if_pos hsk, ← htg]
        have hpt := rPut_any t
        unfold Tc.putV at hpt
        simp only [Tc.val] at hpt hV
        have hc0 : t.craft = (H : Int) % 1024 := by rw [htc]
        have hc1 : t.chan = (S : Int) / 1024 := by rw [htc]
        have hc2 : t.byp = (((H : Int) / 8192 % 2) == 1) := by rw [htc]
        have hc3 : t.ctl = (((H : Int) / 4096 % 2) == 1) := by rw [htc]
        have hc4 : t.seq = ((b[4]'(by omega)).toNat : Int) := by rw [htc]
        have hc5 : t.data = b.extract 5 m := by rw [htc]
        rw [← hc0, ← hc1, ← hc2, ← hc3, ← hc4, ← hc5] at HF8
        obtain ⟨g, hgg⟩ : ∃ g, g = t.good := ⟨_, rfl⟩
        rw [← hgg] at hV hpt
        obtain ⟨en, hen⟩ : ∃ en, en = t.enc := ⟨_, rfl⟩
        rw [← hen] at hV hpt
        obtain ⟨tc, tch, tb, tk, ts, td⟩ := t
        dsimp only [strOf] at hpt hV HF8
        have HV := Lib.hid hV
        have hFl := HF8.out.lt
        have c0 := HF8.out.cell 0
        have c1 := HF8.out.cell 1
        have c2 := HF8.out.cell 2
        have c3 := HF8.out.cell 3
        have c4 := HF8.out.cell 4
        have c5 := HF8.out.cell 5
        simp only [List.getElem?_cons_zero, List.getElem?_cons_succ] at c0 c1 c2 c3 c4 c5
        cases g
        · have HPT := Lib.hid (show ∀ (w : World), Calls Try.prog 30 #[.agg #[.int .i64 tc, .int .i64 tch, .bool tb, .bool tk, .int .i64 ts, .string td]] w fun e w' => e = .returned (.tuple #[.string ⟨#[]⟩, .int .i64 2]) ∧ Below w.heap.size w w' from hpt)
          clear hV hpt htc htg hgg hen hc0 hc1 hc2 hc3 hc4 hc5 hg4 HH HS HOK HXY HM hne hmw
          go_wp2_with fail
          refine (HPT.out _).mono ?_
          rintro e w9 ⟨rfl, hL9⟩
          have HZ9 := Lib.hid (HZ8.out.below hL9 HZ8.out.lt)
          have HL9 := Lib.hid (HL8.out.trans (hL9.mono HL8.out.size)); clear hL9
          have z0 := HZ9.out.cell 0
          have z1 := HZ9.out.cell 1
          have z2 := HZ9.out.cell 2
          have z3 := HZ9.out.cell 3
          have z4 := HZ9.out.cell 4
          have z5 := HZ9.out.cell 5
          simp only [Tc.cells, Tc.zero, List.getElem?_cons_zero, List.getElem?_cons_succ] at z0 z1 z2 z3 z4 z5
          have y0 := HZ9.out.free 0
          have y1 := HZ9.out.free 1
          have y2 := HZ9.out.free 2
          have y3 := HZ9.out.free 3
          have y4 := HZ9.out.free 4
          have y5 := HZ9.out.free 5
          go_wp2_with fail
          refine ret_cell_tmp rfl w.heap.size 30 Tc.zero.cells rfl ((((((HZ9.out.set 0 _).set 1 _).set 2 _).set 3 _).set 4 _).set 5 _) Try.underlying30 rfl (by kernel_rfl) rfl ?_
          exact ⟨by rw [HV.out]; rfl, ((((((HL9.out.setCell (Nat.le_refl _) _).setCell (Nat.le_refl _) _).setCell (Nat.le_refl _) _).setCell (Nat.le_refl _) _).setCell (Nat.le_refl _) _).setCell (Nat.le_refl _) _)⟩
        · have HPT := Lib.hid (show ∀ (w : World), Calls Try.prog 30 #[.agg #[.int .i64 tc, .int .i64 tch, .bool tb, .bool tk, .int .i64 ts, .string td]] w fun e w' => e = .returned (.tuple #[.string ⟨en.toArray⟩, .int .i64 0]) ∧ Below w.heap.size w w' from hpt)
          obtain ⟨es, hes⟩ : ∃ es : ByteArray, es = ⟨en.toArray⟩ := ⟨_, rfl⟩
          rw [← hes] at HPT
          have hee : es.data.toList = en := by rw [hes]
          by_cases heq : en = b.data.toList
          · have hesb : es = b := by rw [hes, heq]
            rw [decide_eq_true heq] at HV
            have hss : (b.toList == b.toList) = true := by simp
            rw [hesb] at HPT
            clear heq hesb
            clear hV hpt htc htg hgg hen hc0 hc1 hc2 hc3 hc4 hc5 hg4 HH HS HOK HXY HM hne hmw hes hee
            go_wp2_with fail
            refine (HPT.out _).mono ?_
            rintro e w9 ⟨rfl, hL9⟩
            have HZ9 := Lib.hid (HZ8.out.below hL9 HZ8.out.lt)
            have HF9 := Lib.hid (HF8.out.below hL9 HF8.out.lt)
            have HL9 := Lib.hid (HL8.out.trans (hL9.mono HL8.out.size)); clear hL9
            have z0 := HZ9.out.cell 0
            have z1 := HZ9.out.cell 1
            have z2 := HZ9.out.cell 2
            have z3 := HZ9.out.cell 3
            have z4 := HZ9.out.cell 4
            have z5 := HZ9.out.cell 5
            simp only [Tc.cells, Tc.zero, List.getElem?_cons_zero, List.getElem?_cons_succ] at z0 z1 z2 z3 z4 z5
            have y0 := HZ9.out.free 0
            have y1 := HZ9.out.free 1
            have y2 := HZ9.out.free 2
            have y3 := HZ9.out.free 3
            have y4 := HZ9.out.free 4
            have y5 := HZ9.out.free 5
            have r0 := HF9.out.cell 0
            have r1 := HF9.out.cell 1
            have r2 := HF9.out.cell 2
            have r3 := HF9.out.cell 3
            have r4 := HF9.out.cell 4
            have r5 := HF9.out.cell 5
            simp only [List.getElem?_cons_zero, List.getElem?_cons_succ] at r0 r1 r2 r3 r4 r5
            go_wp2_with fail
            refine ret_cell_tmp rfl w.heap.size 30 [.int .i64 tc, .int .i64 tch, .bool tb, .bool tk, .int .i64 ts, .string td] rfl ((((((HZ9.out.set 0 _).set 1 _).set 2 _).set 3 _).set 4 _).set 5 _) Try.underlying30 rfl (by kernel_rfl) rfl ?_
            exact ⟨by rw [HV.out]; rfl, ((((((HL9.out.setCell (Nat.le_refl _) _).setCell (Nat.le_refl _) _).setCell (Nat.le_refl _) _).setCell (Nat.le_refl _) _).setCell (Nat.le_refl _) _).setCell (Nat.le_refl _) _)⟩
          · rw [decide_eq_false heq] at HV
            have hss : (es.toList == b.toList) = false := by
              rw [toList_data, toList_data, hee]; simpa using heq
            clear heq
            clear hV hpt htc htg hgg hen hc0 hc1 hc2 hc3 hc4 hc5 hg4 HH HS HOK HXY HM hne hmw hes hee
            go_wp2_with fail
            refine (HPT.out _).mono ?_
            rintro e w9 ⟨rfl, hL9⟩
            have HZ9 := Lib.hid (HZ8.out.below hL9 HZ8.out.lt)
            have HF9 := Lib.hid (HF8.out.below hL9 HF8.out.lt)
            have HL9 := Lib.hid (HL8.out.trans (hL9.mono HL8.out.size)); clear hL9
            have z0 := HZ9.out.cell 0
            have z1 := HZ9.out.cell 1
            have z2 := HZ9.out.cell 2
            have z3 := HZ9.out.cell 3
            have z4 := HZ9.out.cell 4
            have z5 := HZ9.out.cell 5
            simp only [Tc.cells, Tc.zero, List.getElem?_cons_zero, List.getElem?_cons_succ] at z0 z1 z2 z3 z4 z5
            have y0 := HZ9.out.free 0
            have y1 := HZ9.out.free 1
            have y2 := HZ9.out.free 2
            have y3 := HZ9.out.free 3
            have y4 := HZ9.out.free 4
            have y5 := HZ9.out.free 5
            have r0 := HF9.out.cell 0
            have r1 := HF9.out.cell 1
            have r2 := HF9.out.cell 2
            have r3 := HF9.out.cell 3
            have r4 := HF9.out.cell 4
            have r5 := HF9.out.cell 5
            simp only [List.getElem?_cons_zero, List.getElem?_cons_succ] at r0 r1 r2 r3 r4 r5
            go_wp2_with fail
            refine ret_cell_tmp rfl w.heap.size 30 Tc.zero.cells rfl ((((((HZ9.out.set 0 _).set 1 _).set 2 _).set 3 _).set 4 _).set 5 _) Try.underlying30 rfl (by kernel_rfl) rfl ?_
            exact ⟨by rw [HV.out]; rfl, ((((((HL9.out.setCell (Nat.le_refl _) _).setCell (Nat.le_refl _) _).setCell (Nat.le_refl _) _).setCell (Nat.le_refl _) _).setCell (Nat.le_refl _) _).setCell (Nat.le_refl _) _)⟩
    · have hne : ((x : Int) != (y : Int)) = true := by simp; omega
      rw [decide_eq_false hxy] at HOK
      clear hxy
      have z0 := HZ4.out.cell 0
      have z1 := HZ4.out.cell 1
      have z2 := HZ4.out.cell 2
      have z3 := HZ4.out.cell 3
      have z4 := HZ4.out.cell 4
      have z5 := HZ4.out.cell 5
      simp only [Tc.cells, Tc.zero, List.getElem?_cons_zero, List.getElem?_cons_succ] at z0 z1 z2 z3 z4 z5
      have f0 := HZ4.out.free 0
      have f1 := HZ4.out.free 1
      have f2 := HZ4.out.free 2
      have f3 := HZ4.out.free 3
      have f4 := HZ4.out.free 4
      have f5 := HZ4.out.free 5
      go_wp2_with fail
      refine ret_cell_tmp rfl w.heap.size 30 Tc.zero.cells rfl ((((((HZ4.out.set 0 _).set 1 _).set 2 _).set 3 _).set 4 _).set 5 _) Try.underlying30 rfl (by kernel_rfl) rfl ?_
      refine ⟨?_, ((((((HL4.out.setCell (Nat.le_refl _) _).setCell (Nat.le_refl _) _).setCell (Nat.le_refl _) _).setCell (Nat.le_refl _) _).setCell (Nat.le_refl _) _).setCell (Nat.le_refl _) _)⟩
      unfold getV
      rw [if_neg (by omega), HOK.out]
      rfl
end Go.Proofs.Ytebgehmgjafblaa
