/- What is proved here: the walk of the law about prefixes. -/
import Derived.Test.YtebgehmgjafblaaL14v
set_option linter.unusedVariables false
set_option linter.unusedSimpArgs false
namespace Go.Proofs.Ytebgehmgjafblaa
open Go.RowKit
set_option maxHeartbeats 8000000 in
set_option maxRecDepth 100000 in
theorem FarmPrefix_ok (win beg : Int) (a : Option Addr) (n cap : Nat) (S : Nat → Int) (w : World) (hI : I64 win) (hJ : I64 beg) (hn : n ≤ 2000) (hS : RowAt w a n (fun i => .int .i64 (S i))) (hb : ∀ i, i < n → I64 (S i)) :
    Calls Try.prog 4 #[.int .i64 win, .int .i64 beg, .slice a n cap] w fun e w' => e = .returned (.bool true) ∧ Below w.heap.size w w' := by
  have HSH := Lib.hid (shown14_any w)
  have hp := fun w => pick_any win 127 w (by omega) (by omega) hI.1 hI.2
  obtain ⟨p, hpp⟩ : ∃ p, p = win % 127 := ⟨_, rfl⟩
  rw [← hpp] at hp
  have hp0 : 0 ≤ p := by omega
  have hp1 : p ≤ 126 := by omega
  clear hpp
  have HP := Lib.hid hp
  have hq := fun w => pick_any beg 256 w (by omega) (by omega) hJ.1 hJ.2
  obtain ⟨s, hss⟩ : ∃ s, s = beg % 256 := ⟨_, rfl⟩
  rw [← hss] at hq
  have hs0 : 0 ≤ s := by omega
  have hs1 : s ≤ 255 := by omega
  clear hss
  have HQ := Lib.hid hq
  have hnew := fun w => New_ok 1 2 (1 + p) w (by omega) (by omega) (by omega) (by omega) (by omega) (by omega)
  have hpick := fun i (h : i < n) w => pick_any (S i) (8 * (1 + p)) w (by omega) (by omega) (hb i h).1 (hb i h).2
  obtain ⟨half, hh⟩ : ∃ half, half = 1 + p := ⟨_, rfl⟩
  rw [← hh] at hnew hpick
  have hh1 : 1 ≤ half := by omega
  have hh2 : half ≤ 127 := by omega
  have HH := Lib.hid hh
  have HN := Lib.hid hnew
  have HPK := Lib.hid hpick
  have HS := Lib.hid hS
  clear hS hp hq hnew hpick hh hb
  have h20 : ¬ 2000 < n := by omega
  go_enter Try.func4, Try.ntmps4
  go_wp2_with fail
  refine HSH.out.mono ?_
  rintro e w1 ⟨rfl, hL⟩
  have HL := Lib.hid hL; clear hL HSH
  go_wp2_with fail
  refine (HP.out _).mono ?_
  rintro e _ ⟨rfl, rfl⟩
  go_upto_region 6 with fail
  rw [← HH.out]
  go_wp2_with fail
  refine (HQ.out _).mono ?_
  rintro e _ ⟨rfl, rfl⟩
  go_wp2_with fail
  refine (HN.out _).mono ?_
  rintro e w2 ⟨rfl, hL, hB⟩
  obtain ⟨g, hg⟩ : ∃ g, g = w1.heap.size := ⟨_, rfl⟩
  rw [← hg] at hB ⊢
  have hgw : w.heap.size ≤ g := by rw [hg]; exact HL.out.size
  replace HL := Lib.hid (HL.out.trans (hL.mono HL.out.size))
  have HF := Lib.hid hB
  clear hL hB hg HP HQ HN
  have hcv := bytes1_string w2 s hs0 hs1
  go_wp2_with fail
  replace HL := Lib.hid (HL.out.alloc HL.out.size (Obj.cells #[.int .u8 s] 5))
  replace HF := Lib.hid (HF.out.alloc (Obj.cells #[.int .u8 s] 5))
  clear hcv
  refine (set_any half s g _ hh1 hh2 hs0 hs1 HF.out).mono ?_
  rintro e w3 ⟨rfl, hK, hB⟩
  replace HL := Lib.hid (HL.out.trans (hK.toBelowAt HL.out.size (by simp; omega)))
  replace HF := Lib.hid (hB)
  clear hK hB
  have hst := fun W h => State_any (Fm.mk 1 half ⟨2, false, false, false, 1, s⟩) g W (by simp only; omega) h
  simp only [Wd.val] at hst
  have HST := Lib.hid hst; clear hst
  go_wp2_with fail
  refine (HST.out _ HF.out).mono ?_
  rintro e w4 ⟨rfl, hL⟩
  replace HL := Lib.hid (HL.out.trans (hL.mono HL.out.size))
  replace HF := Lib.hid (HF.out.below hL HF.out.lt)
  clear hL
  clear HST
  have hf5 := wd_field5 2 1 s false false false
  go_wp2_with fail
  clear hf5
  go_loopg [11, 12, 13, 14] n (fun m wv bv nv i wr => ∃ k : Nat, k ≤ n ∧ m = n - k ∧ i = .int .i64 k ∧ Below w.heap.size w wr ∧ ∃ (b nn : Int) (xs : List Int) (wa re : Bool), bv = .int .i64 b ∧ nv = .int .i64 nn ∧ WInv half b nn xs ∧ nn ≤ k ∧ xs.length ≤ 2 * k ∧ QRow wr (g + 1) 3 1 wv xs.length (xs.map vi) ∧ Blk wr g (Fm.mk 1 half ⟨2, false, wa, re, 1, (s + nn) % 256⟩).cells 82)
  case atStart => exact ⟨0, by omega, by omega, rfl, HL.out, 0, 0, [], false, false, rfl, rfl, WInv.start half hh1, by omega, by simp, q_nil _ _ _ _, by have := HF.out; rw [show (s + 0) % 256 = s by omega]; exact this⟩
  case round =>
    clear HL HF
    obtain ⟨k, hk, hm, rfl, hL, b, nn, xs, wa, re, rfl, rfl, hI, hnk, hxl, hW, hB⟩ := hrel
    have HL := Lib.hid hL; have HF := Lib.hid hB; have HW := Lib.hid hW; have HI := Lib.hid hI; clear hL hB hW
    have hb0 := hI.b0
    have hbn := hI.bn
    have hnb := hI.nb
    clear hI
    by_cases hlt : k < n
    case neg =>
      go_wp2_with fail
      go_ret
      exact ⟨rfl, HL.out⟩
    obtain ⟨bb, off, rfl, hbl, hC⟩ := HS.out k hlt
    have c0 : wr.cell? ⟨bb, off + k, none⟩ = some (.int .i64 (S k)) := (HL.out.cell (p := ⟨bb, off + k, none⟩) hbl).trans hC
    have hpk := HPK.out k hlt
    obtain ⟨y, hy⟩ : ∃ y, y = S k := ⟨_, rfl⟩
    rw [← hy] at c0 hpk
    clear hy hC
    have hk0 : 0 ≤ y % (8 * half) := Int.emod_nonneg _ (by omega)
    have hk1 : y % (8 * half) < 8 * half := Int.emod_lt_of_pos _ (by omega)
    obtain ⟨kk, hkk⟩ : ∃ kk, kk = y % (8 * half) := ⟨_, rfl⟩
    rw [← hkk] at hpk hk0 hk1
    have HPk := Lib.hid hpk
    clear hkk hpk
    have hq0 : 0 ≤ kk / 8 := by omega
    have hq1 : kk / 8 < half := by omega
    obtain ⟨wad, wcap, rfl, hwc0, hwc⟩ := q_form HW.out
    clear hwc0
    go_wp2_with fail
    refine (HPk.out _).mono ?_
    rintro e _ ⟨rfl, rfl⟩
    have hr : kk % 8 = 0 ∨ kk % 8 = 1 ∨ kk % 8 = 2 ∨ kk % 8 = 3 ∨ kk % 8 = 4 ∨ 5 ≤ kk % 8 := by omega
    rcases hr with hr | hr | hr | hr | hr | hr
    · have d0 : (kk % 8 == 0) = true := by rw [beq_iff_eq]; omega
      have d1 : (kk % 8 == 1) = false := by rw [beq_eq_false_iff_ne]; omega
      have d2 : (kk % 8 == 2) = false := by rw [beq_eq_false_iff_ne]; omega
      have d3 : (kk % 8 == 3) = false := by rw [beq_eq_false_iff_ne]; omega
      have d4 : (kk % 8 == 4) = false := by rw [beq_eq_false_iff_ne]; omega
      clear hr
      go_wp2_with (at_builtin; refine append_int _ rfl _ _ rfl rfl (g + 1) _ xs.length (xs.map vi) rfl (q_alloc HW.out _) wr.heap.size (b + kk / 8) rfl ?c1 ?c2 ?c3 ?_)
      case c1 => exact (Blk.new wr [vi (b + kk / 8)] 3).cell 0
      case c2 => omega
      case c3 => have := HF.out.lt; simp; omega
      intro v2 w2 hQ2 hK2 _
      have K2 := ((Keep.refl _ wr).alloc _).trans hK2
      replace HL := Lib.hid (HL.out.trans (K2.toBelowAt HL.out.size (fun i hi => by rw [Option.mem_toList] at hi; have := (q_lt HW.out i hi).1; omega)))
      replace HF := Lib.hid (HF.out.keep K2 (by intro hi; rw [Option.mem_toList] at hi; have := (q_lt HW.out _ hi).1; omega))
      have HW2 := Lib.hid hQ2
      clear hQ2 hK2 K2 HW
      go_wp2_with fail
      go_roundg (n - (k + 1))
      case rel => exact ⟨k + 1, by omega, rfl, by go_num, HL.out, b, nn, xs ++ [b + kk / 8], wa, re, rfl, rfl, HI.out.send _ hq0 hq1, by omega, by simp; omega, by simpa using HW2.out, HF.out⟩
      case measure => omega
    · have d0 : (kk % 8 == 0) = false := by rw [beq_eq_false_iff_ne]; omega
      have d1 : (kk % 8 == 1) = true := by rw [beq_iff_eq]; omega
      have d2 : (kk % 8 == 2) = false := by rw [beq_eq_false_iff_ne]; omega
      have d3 : (kk % 8 == 3) = false := by rw [beq_eq_false_iff_ne]; omega
      have d4 : (kk % 8 == 4) = false := by rw [beq_eq_false_iff_ne]; omega
      clear hr
      go_wp2_with (at_builtin; refine append_int _ rfl _ _ rfl rfl (g + 1) _ xs.length (xs.map vi) rfl (q_alloc HW.out _) wr.heap.size (b + kk / 8) rfl ?c1 ?c2 ?c3 ?_)
      case c1 => exact (Blk.new wr [vi (b + kk / 8)] 3).cell 0
      case c2 => omega
      case c3 => have := HF.out.lt; simp; omega
      intro v2 w2 hQ2 hK2 _
      have K2 := ((Keep.refl _ wr).alloc _).trans hK2
      replace HL := Lib.hid (HL.out.trans (K2.toBelowAt HL.out.size (fun i hi => by rw [Option.mem_toList] at hi; have := (q_lt HW.out i hi).1; omega)))
      replace HF := Lib.hid (HF.out.keep K2 (by intro hi; rw [Option.mem_toList] at hi; have := (q_lt HW.out _ hi).1; omega))
      have HW2 := Lib.hid hQ2
      clear hQ2 hK2 K2 HW
      obtain ⟨a2, cap2, rfl, _, hcm2⟩ := q_form HW2.out
      go_wp2_with (at_builtin; refine append_int _ rfl _ _ rfl rfl (g + 1) _ (xs.length + 1) (xs.map vi ++ [vi (b + kk / 8)]) rfl (q_alloc HW2.out _) w2.heap.size (b + kk / 8) rfl ?c1 ?c2 ?c3 ?_)
      case c1 => exact (Blk.new w2 [vi (b + kk / 8)] 3).cell 0
      case c2 => omega
      case c3 => have := HF.out.lt; simp; omega
      intro v3 w3 hQ3 hK3 _
      have K3 := ((Keep.refl _ w2).alloc _).trans hK3
      replace HL := Lib.hid (HL.out.trans (K3.toBelowAt HL.out.size (fun i hi => by rw [Option.mem_toList] at hi; have := (q_lt HW2.out i hi).1; omega)))
      replace HF := Lib.hid (HF.out.keep K3 (by intro hi; rw [Option.mem_toList] at hi; have := (q_lt HW2.out _ hi).1; omega))
      have HW3 := Lib.hid hQ3
      clear hQ3 hK3 K3 HW2
      go_wp2_with fail
      go_roundg (n - (k + 1))
      case rel => exact ⟨k + 1, by omega, rfl, by go_num, HL.out, b, nn, xs ++ [b + kk / 8] ++ [b + kk / 8], wa, re, rfl, rfl, (HI.out.send _ hq0 hq1).send _ hq0 hq1, by omega, by simp; omega, by simpa using HW3.out, HF.out⟩
      case measure => omega
    · have d0 : (kk % 8 == 0) = false := by rw [beq_eq_false_iff_ne]; omega
      have d1 : (kk % 8 == 1) = false := by rw [beq_eq_false_iff_ne]; omega
      have d2 : (kk % 8 == 2) = true := by rw [beq_iff_eq]; omega
      have d3 : (kk % 8 == 3) = false := by rw [beq_eq_false_iff_ne]; omega
      have d4 : (kk % 8 == 4) = false := by rw [beq_eq_false_iff_ne]; omega
      clear hr
      go_wp2_with (at_builtin; refine append_int _ rfl _ _ rfl rfl (g + 1) _ xs.length (xs.map vi) rfl (q_alloc HW.out _) wr.heap.size (b + kk / 8) rfl ?c1 ?c2 ?c3 ?_)
      case c1 => exact (Blk.new wr [vi (b + kk / 8)] 3).cell 0
      case c2 => omega
      case c3 => have := HF.out.lt; simp; omega
      intro v2 w2 hQ2 hK2 _
      have K2 := ((Keep.refl _ wr).alloc _).trans hK2
      replace HL := Lib.hid (HL.out.trans (K2.toBelowAt HL.out.size (fun i hi => by rw [Option.mem_toList] at hi; have := (q_lt HW.out i hi).1; omega)))
      replace HF := Lib.hid (HF.out.keep K2 (by intro hi; rw [Option.mem_toList] at hi; have := (q_lt HW.out _ hi).1; omega))
      have HW2 := Lib.hid hQ2
      clear hQ2 hK2 K2 HW
      obtain ⟨m2, hm2⟩ : ∃ m2, m2 = xs.length := ⟨_, rfl⟩
      have hQ2 := HW2.out
      rw [← hm2] at hQ2
      obtain ⟨a2, cap2, rfl, hcn2, hcm2⟩ := q_form hQ2
      have hQ3 := upto_int hQ2
      have hm2b : m2 ≤ 4000 := by omega
      have HW3 := Lib.hid hQ3
      have HM2 := Lib.hid hm2
      clear hm2 hQ2 hQ3 HW2
      go_wp2_with fail
      go_roundg (n - (k + 1))
      case rel => exact ⟨k + 1, by omega, rfl, by go_num, HL.out, b, nn, xs, wa, re, rfl, rfl, HI.out, by omega, by omega, by have := HW3.out; rw [HM2.out] at this; rw [HM2.out]; exact this, HF.out⟩
      case measure => omega
    · have d0 : (kk % 8 == 0) = false := by rw [beq_eq_false_iff_ne]; omega
      have d1 : (kk % 8 == 1) = false := by rw [beq_eq_false_iff_ne]; omega
      have d2 : (kk % 8 == 2) = false := by rw [beq_eq_false_iff_ne]; omega
      have d3 : (kk % 8 == 3) = true := by rw [beq_iff_eq]; omega
      have d4 : (kk % 8 == 4) = false := by rw [beq_eq_false_iff_ne]; omega
      clear hr
      go_wp2_with (at_builtin; refine append_int _ rfl _ _ rfl rfl (g + 1) _ xs.length (xs.map vi) rfl (q_alloc HW.out _) wr.heap.size (b + kk / 8) rfl ?c1 ?c2 ?c3 ?_)
      case c1 => exact (Blk.new wr [vi (b + kk / 8)] 3).cell 0
      case c2 => omega
      case c3 => have := HF.out.lt; simp; omega
      intro v2 w2 hQ2 hK2 _
      have K2 := ((Keep.refl _ wr).alloc _).trans hK2
      replace HL := Lib.hid (HL.out.trans (K2.toBelowAt HL.out.size (fun i hi => by rw [Option.mem_toList] at hi; have := (q_lt HW.out i hi).1; omega)))
      replace HF := Lib.hid (HF.out.keep K2 (by intro hi; rw [Option.mem_toList] at hi; have := (q_lt HW.out _ hi).1; omega))
      have HW2 := Lib.hid hQ2
      clear hQ2 hK2 K2 HW
      go_wp2_with fail
      go_roundg (n - (k + 1))
      case rel => exact ⟨k + 1, by omega, rfl, by go_num, HL.out, b, nn, xs ++ [b + kk / 8], wa, re, rfl, rfl, HI.out.send _ hq0 hq1, by omega, by simp; omega, by simpa using HW2.out, HF.out⟩
      case measure => omega
    · have d0 : (kk % 8 == 0) = false := by rw [beq_eq_false_iff_ne]; omega
      have d1 : (kk % 8 == 1) = false := by rw [beq_eq_false_iff_ne]; omega
      have d2 : (kk % 8 == 2) = false := by rw [beq_eq_false_iff_ne]; omega
      have d3 : (kk % 8 == 3) = false := by rw [beq_eq_false_iff_ne]; omega
      have d4 : (kk % 8 == 4) = true := by rw [beq_iff_eq]; omega
      clear hr
      have hz : (nn - b + 1 == 0) = false := by rw [beq_eq_false_iff_ne]; omega
      have hm0 : 0 ≤ kk / 8 % (nn - b + 1) := Int.emod_nonneg _ (by omega)
      have hm1 : kk / 8 % (nn - b + 1) < nn - b + 1 := Int.emod_lt_of_pos _ (by omega)
      go_wp2_with fail
      go_roundg (n - (k + 1))
      case rel => exact ⟨k + 1, by omega, rfl, by go_num, HL.out, b + kk / 8 % (nn - b + 1), nn, xs, wa, re, by go_num, rfl, HI.out.move _ hm0 (by omega), by omega, by omega, HW.out, HF.out⟩
      case measure => omega
    · have d0 : (kk % 8 == 0) = false := by rw [beq_eq_false_iff_ne]; omega
      have d1 : (kk % 8 == 1) = false := by rw [beq_eq_false_iff_ne]; omega
      have d2 : (kk % 8 == 2) = false := by rw [beq_eq_false_iff_ne]; omega
      have d3 : (kk % 8 == 3) = false := by rw [beq_eq_false_iff_ne]; omega
      have d4 : (kk % 8 == 4) = false := by rw [beq_eq_false_iff_ne]; omega
      clear hr
      obtain ⟨room, hroom⟩ : ∃ room, room = (kk % 8 != 5) := ⟨_, rfl⟩
      cases xs with
      | nil =>
        go_wp2_with fail
        go_roundg (n - (k + 1))
        case rel => exact ⟨k + 1, by omega, rfl, by go_num, HL.out, b, nn, [], wa, re, rfl, rfl, HI.out, by omega, by simp, HW.out, HF.out⟩
        case measure => omega
      | cons x xs =>
        obtain ⟨hx0, hx1, hx2⟩ := HI.out.head
        have hx3 : x ≤ 2200 := by have := HI.out.hi x (List.mem_cons_self); omega
        have hxl2 : xs.length ≤ 4000 := by simp at hxl; omega
        obtain ⟨gq, oq, cq, hv, hgq, hgq2, hncq, hcq, _⟩ := q_cells HW.out (by simp)
        have cx : wr.cell? ⟨gq, oq, none⟩ = some (.int .i64 x) := by have := hcq 0 (vi x) rfl; simpa [vi] using this
        injection hv with e1 e2 e3
        subst e1 e3
        have hW := HW.out
        simp only [List.length_cons, List.map_cons] at hW
        clear hcq e2
        have hcv := bytes3_string wr (x % 256) (x / 256) 1 (by omega) (by omega) (by omega) (by omega) (by omega) (by omega)
        obtain ⟨d, hd⟩ : ∃ d : ByteArray, d = ⟨#[UInt8.ofNat (x % 256).toNat, UInt8.ofNat (x / 256).toNat, UInt8.ofNat (1 : Int).toNat]⟩ := ⟨_, rfl⟩
        rw [← hd] at hcv
        have hds : d.size = 3 := by rw [hd]; rfl
        have HDS := Lib.hid hds
        clear hd hds hroom room
        have hfr := fun w => frame_any (s + x) d w ⟨by omega, by omega⟩
        simp only [Tc.val] at hfr
        have HFR := Lib.hid hfr; clear hfr
        by_cases hc1 : wcap = 1
        · subst hc1
          obtain ⟨hn0, hxn, hQ3⟩ := from_last hW
          obtain rfl : xs = [] := by simpa using hxn
          clear hxn
          have HW3 := Lib.hid hQ3
          clear hW hQ3 hn0
          go_wp2_with fail
          replace HL := Lib.hid (HL.out.alloc HL.out.size (Obj.cells #[.int .u8 (x % 256), .int .u8 (x / 256), .int .u8 1] 5))
          replace HF := Lib.hid (HF.out.alloc (Obj.cells #[.int .u8 (x % 256), .int .u8 (x / 256), .int .u8 1] 5))
          replace HW3 := Lib.hid (q_alloc HW3.out (Obj.cells #[.int .u8 (x % 256), .int .u8 (x / 256), .int .u8 1] 5))
          clear hcv cx
          refine (HFR.out _).mono ?_
          rintro e v5 ⟨rfl, hL⟩
          replace HL := Lib.hid (HL.out.trans (hL.mono HL.out.size))
          replace HF := Lib.hid (HF.out.below hL HF.out.lt)
          replace HW3 := Lib.hid (q_below HW3.out hL (Nat.le_refl _))
          clear hL HFR
          go_wp2_with fail
          refine (way_any half nn s x wa re _ d g _ hh1 hh2 hx1 hx2 HDS.out HF.out).mono ?_
          rintro e v6 ⟨ok, wa', re', rfl, hok, hK, hB⟩
          replace HL := Lib.hid (HL.out.trans (hK.toBelowAt HL.out.size (by simp; omega)))
          replace HW3 := Lib.hid (q_keep HW3.out hK (by intro _ hq; have := q_lt HW3.out _ hq; simp; omega))
          have HI2 := Lib.hid HI.out.tail
          clear hK HF HDS
          cases ok
          · simp only [Bool.false_eq_true, if_false] at hB
            have HF := Lib.hid hB
            have hst := fun W h => State_any (Fm.mk 1 half ⟨2, false, wa', re', 1, (s + nn) % 256⟩) g W (by simp only; omega) h
            simp only [Wd.val] at hst
            have HST := Lib.hid hst
            clear hst hB hok
            go_wp2_with fail
            refine (HST.out _ HF.out).mono ?_
            rintro e v7 ⟨rfl, hL⟩
            replace HL := Lib.hid (HL.out.trans (hL.mono HL.out.size))
            replace HF := Lib.hid (HF.out.below hL HF.out.lt)
            replace HW3 := Lib.hid (q_below HW3.out hL (Nat.le_refl _))
            clear hL
            have hf1 := wd_field1' 2 1 ((s + nn) % 256) false wa' re'
            go_wp2_with fail
            refine (HST.out _ HF.out).mono ?_
            rintro e v8 ⟨rfl, hL⟩
            replace HL := Lib.hid (HL.out.trans (hL.mono HL.out.size))
            replace HF := Lib.hid (HF.out.below hL HF.out.lt)
            replace HW3 := Lib.hid (q_below HW3.out hL (Nat.le_refl _))
            clear hL hf1
            have hf5 := wd_field5 2 1 ((s + nn) % 256) false wa' re'
            go_wp2_with fail
            go_roundg (n - (k + 1))
            case rel => exact ⟨k + 1, by omega, rfl, by go_num, HL.out, b, nn, [], wa', re', rfl, rfl, HI2.out, by omega, by simp at hxl ⊢ <;> omega, by simpa using HW3.out, HF.out⟩
            case measure => omega
          · simp only [if_true] at hB
            obtain rfl := hok rfl
            have HI3 := Lib.hid HI.out.took
            have HF := Lib.hid hB
            have hst := fun W h => State_any (Fm.mk 1 half ⟨2, false, wa', re', 1, (s + (x + 1)) % 256⟩) g W (by simp only; omega) h
            simp only [Wd.val] at hst
            have HST := Lib.hid hst
            clear hst hB
            go_wp2_with fail
            refine (HST.out _ HF.out).mono ?_
            rintro e v7 ⟨rfl, hL⟩
            replace HL := Lib.hid (HL.out.trans (hL.mono HL.out.size))
            replace HF := Lib.hid (HF.out.below hL HF.out.lt)
            replace HW3 := Lib.hid (q_below HW3.out hL (Nat.le_refl _))
            clear hL
            have hf1 := wd_field1' 2 1 ((s + (x + 1)) % 256) false wa' re'
            go_wp2_with fail
            refine (HST.out _ HF.out).mono ?_
            rintro e v8 ⟨rfl, hL⟩
            replace HL := Lib.hid (HL.out.trans (hL.mono HL.out.size))
            replace HF := Lib.hid (HF.out.below hL HF.out.lt)
            replace HW3 := Lib.hid (q_below HW3.out hL (Nat.le_refl _))
            clear hL hf1
            have hf5 := wd_field5 2 1 ((s + (x + 1)) % 256) false wa' re'
            go_wp2_with fail
            go_roundg (n - (k + 1))
            case rel => exact ⟨k + 1, by omega, rfl, by go_num, HL.out, b, x + 1, [], wa', re', rfl, by go_num, HI3.out, by omega, by simp at hxl ⊢ <;> omega, by simpa using HW3.out, HF.out⟩
            case measure => omega
        · have HW3 := Lib.hid (from_one hW hc1)
          clear hW
          go_wp2_with fail
          replace HL := Lib.hid (HL.out.alloc HL.out.size (Obj.cells #[.int .u8 (x % 256), .int .u8 (x / 256), .int .u8 1] 5))
          replace HF := Lib.hid (HF.out.alloc (Obj.cells #[.int .u8 (x % 256), .int .u8 (x / 256), .int .u8 1] 5))
          replace HW3 := Lib.hid (q_alloc HW3.out (Obj.cells #[.int .u8 (x % 256), .int .u8 (x / 256), .int .u8 1] 5))
          clear hcv cx
          refine (HFR.out _).mono ?_
          rintro e v5 ⟨rfl, hL⟩
          replace HL := Lib.hid (HL.out.trans (hL.mono HL.out.size))
          replace HF := Lib.hid (HF.out.below hL HF.out.lt)
          replace HW3 := Lib.hid (q_below HW3.out hL (Nat.le_refl _))
          clear hL HFR
          go_wp2_with fail
          refine (way_any half nn s x wa re _ d g _ hh1 hh2 hx1 hx2 HDS.out HF.out).mono ?_
          rintro e v6 ⟨ok, wa', re', rfl, hok, hK, hB⟩
          replace HL := Lib.hid (HL.out.trans (hK.toBelowAt HL.out.size (by simp; omega)))
          replace HW3 := Lib.hid (q_keep HW3.out hK (by intro _ hq; have := q_lt HW3.out _ hq; simp; omega))
          have HI2 := Lib.hid HI.out.tail
          clear hK HF HDS
          cases ok
          · simp only [Bool.false_eq_true, if_false] at hB
            have HF := Lib.hid hB
            have hst := fun W h => State_any (Fm.mk 1 half ⟨2, false, wa', re', 1, (s + nn) % 256⟩) g W (by simp only; omega) h
            simp only [Wd.val] at hst
            have HST := Lib.hid hst
            clear hst hB hok
            go_wp2_with fail
            refine (HST.out _ HF.out).mono ?_
            rintro e v7 ⟨rfl, hL⟩
            replace HL := Lib.hid (HL.out.trans (hL.mono HL.out.size))
            replace HF := Lib.hid (HF.out.below hL HF.out.lt)
            replace HW3 := Lib.hid (q_below HW3.out hL (Nat.le_refl _))
            clear hL
            have hf1 := wd_field1' 2 1 ((s + nn) % 256) false wa' re'
            go_wp2_with fail
            refine (HST.out _ HF.out).mono ?_
            rintro e v8 ⟨rfl, hL⟩
            replace HL := Lib.hid (HL.out.trans (hL.mono HL.out.size))
            replace HF := Lib.hid (HF.out.below hL HF.out.lt)
            replace HW3 := Lib.hid (q_below HW3.out hL (Nat.le_refl _))
            clear hL hf1
            have hf5 := wd_field5 2 1 ((s + nn) % 256) false wa' re'
            go_wp2_with fail
            go_roundg (n - (k + 1))
            case rel => exact ⟨k + 1, by omega, rfl, by go_num, HL.out, b, nn, xs, wa', re', rfl, rfl, HI2.out, by omega, by simp at hxl ⊢ <;> omega, by simpa using HW3.out, HF.out⟩
            case measure => omega
          · simp only [if_true] at hB
            obtain rfl := hok rfl
            have HI3 := Lib.hid HI.out.took
            have HF := Lib.hid hB
            have hst := fun W h => State_any (Fm.mk 1 half ⟨2, false, wa', re', 1, (s + (x + 1)) % 256⟩) g W (by simp only; omega) h
            simp only [Wd.val] at hst
            have HST := Lib.hid hst
            clear hst hB
            go_wp2_with fail
            refine (HST.out _ HF.out).mono ?_
            rintro e v7 ⟨rfl, hL⟩
            replace HL := Lib.hid (HL.out.trans (hL.mono HL.out.size))
            replace HF := Lib.hid (HF.out.below hL HF.out.lt)
            replace HW3 := Lib.hid (q_below HW3.out hL (Nat.le_refl _))
            clear hL
            have hf1 := wd_field1' 2 1 ((s + (x + 1)) % 256) false wa' re'
            go_wp2_with fail
            refine (HST.out _ HF.out).mono ?_
            rintro e v8 ⟨rfl, hL⟩
            replace HL := Lib.hid (HL.out.trans (hL.mono HL.out.size))
            replace HF := Lib.hid (HF.out.below hL HF.out.lt)
            replace HW3 := Lib.hid (q_below HW3.out hL (Nat.le_refl _))
            clear hL hf1
            have hf5 := wd_field5 2 1 ((s + (x + 1)) % 256) false wa' re'
            go_wp2_with fail
            go_roundg (n - (k + 1))
            case rel => exact ⟨k + 1, by omega, rfl, by go_num, HL.out, b, x + 1, xs, wa', re', rfl, by go_num, HI3.out, by omega, by simp at hxl ⊢ <;> omega, by simpa using HW3.out, HF.out⟩
            case measure => omega
theorem FarmPrefix_any (win beg : Int) (a : Option Addr) (n cap : Nat) (S : Nat → Int) (w : World) (hI : I64 win) (hJ : I64 beg) (hn : n ≤ 9223372036854775807) (hS : RowAt w a n (fun i => .int .i64 (S i))) (hb : ∀ i, i < n → I64 (S i)) :
    Calls Try.prog 4 #[.int .i64 win, .int .i64 beg, .slice a n cap] w fun e w' => e = .returned (.bool true) ∧ Below w.heap.size w w' := by
  by_cases h5 : 2000 < n
  · exact FarmPrefix_long win beg a n cap w hn h5
  · exact FarmPrefix_ok win beg a n cap S w hI hJ (by omega) hS hb
end Go.Proofs.Ytebgehmgjafblaa
