/- What is proved here: the walk of the reference's Get of units, kind by kind. -/
import Derived.Test.YtkpgenmlpkfokaaN27
set_option linter.unusedVariables false
set_option linter.unusedSimpArgs false
namespace Go.Proofs.Ytkpgenmlpkfokaa
open Go.RowKit
set_option maxHeartbeats 16000000 in
set_option maxRecDepth 100000 in
theorem vGet_ko (b : ByteArray) (w : World) (h : 6 ≤ b.size ∧ b.size ≤ 167) (h2 : (vnum b (b.size - 2) 2 : Int) = w16 (sum16 (b.extract 0 (b.size - 2)).data.toList)) (hkd : kindOf (b.extract 0 (b.size - 2)) = 0 ∨ 6 < kindOf (b.extract 0 (b.size - 2))) : Calls Try.prog 18 #[.string b] w (VPost b w) := by
  obtain ⟨n, hn⟩ : ∃ n, n = b.size - 2 := ⟨_, rfl⟩
  obtain ⟨hb6, hb167⟩ := h
  have HMI := Lib.hid (show (b.size : Int) - 2 = (n : Int) by omega)
  have hn1 : n ≤ 165 := by omega
  have hn2 : 4 ≤ n := by omega
  have hnb : n ≤ b.size := by omega
  have hnb' : (n : Int) ≤ (b.size : Int) := by omega
  obtain ⟨s, hs⟩ : ∃ s, s = b.extract 0 n := ⟨_, rfl⟩
  have hss : s.size = n := by rw [hs]; simp; omega
  have hsz : s.size ≤ 165 := by omega
  have hsz4 : 4 ≤ s.size := by omega
  obtain ⟨x16, hx16⟩ : ∃ x, x = sum16 s.data.toList := ⟨_, rfl⟩
  obtain ⟨nm2, hnm2⟩ : ∃ x, x = vnum b n 2 := ⟨_, rfl⟩
  have q0 := w16_nonneg x16
  have q1 := w16_lt x16
  have hwh : IntKind.i64.wrap (w16 x16) = w16 x16 := IntWalk.i64_in _ (by omega)
  have H16 := Lib.hid (fun W => rSum16 s W (by omega))
  have HNB := Lib.hid (fun W => vnumber_any b n 2 W (by omega) (by omega) (by omega))
  rw [← hx16] at H16
  rw [← hnm2] at HNB
  have HS := Lib.hid hs; have HSS := Lib.hid hss
  have hse : b.extract 0 n = s := hs.symm
  have dq : (((nm2 : Nat) : Int) != w16 x16) = false := by
    rw [bne_eq_false_iff_eq, hnm2, hx16, hs, hn]; exact h2
  obtain ⟨c, hc⟩ : ∃ c, c = s.data.toList.headD 0 := ⟨_, rfl⟩
  have hgt : s[0]'(Nat.lt_of_lt_of_le (by decide) hsz4) = c := by
    rw [hc]
    have : 0 < s.data.toList.length := by rw [← size_list]; omega
    cases e : s.data.toList with
    | nil => rw [e] at this; simp at this
    | cons a l => show s.data.toList[0]'(by rw [← size_list]; omega) = _; simp only [e]; rfl
  obtain ⟨k, hk⟩ : ∃ k, k = c.toNat := ⟨_, rfl⟩
  have hkk : kindOf s = k := by rw [hk, hc]; rfl
  have hk256 : k < 256 := by rw [hk]; exact c.toNat_lt
  have hwc : IntKind.i64.wrap ((c.toNat : Nat) : Int) = (k : Int) := by rw [← hk]; exact IntWalk.i64_in _ (by omega)
  obtain ⟨nu, hnu⟩ : ∃ nu, nu = vnum s 1 2 := ⟨_, rfl⟩
  have hnul : nu < 4294967296 := by rw [hnu]; exact vnum_lt s 1 2 (by omega)
  have HN1 := Lib.hid (fun W => vnumber_new s 1 2 W (by omega) (by omega) (by omega))
  rw [← hnu] at HN1
  have hkd2 : k = 0 ∨ 6 < k := by rw [← hkk, hs, hn]; exact hkd
  have HUU := Lib.hid (show vGetU s = looseU k (Un.mk (k : Int) (nu : Int) ⟨#[]⟩ 0 0 0 ⟨#[]⟩ 0 0 false []) s by rw [vGetU, hkk, ← hnu]; rfl)
  obtain ⟨u, hu⟩ : ∃ u, u = looseU k (Un.mk (k : Int) (nu : Int) ⟨#[]⟩ 0 0 0 ⟨#[]⟩ 0 0 false []) s := ⟨_, rfl⟩
  have hu' : u = looseU k (Un.mk (k : Int) (nu : Int) ⟨#[]⟩ 0 0 0 ⟨#[]⟩ 0 0 false []) s := hu
  obtain ⟨fn, fd, fg, fi⟩ := looseU_fine k nu s (by omega) (by omega) hnul
  rw [← hu'] at fn fd fg fi
  obtain ⟨es, hes⟩ : ∃ es : ByteArray, es = ⟨(putS u).1.toArray⟩ := ⟨_, rfl⟩
  obtain ⟨er, her⟩ : ∃ er, er = (putS u).2 := ⟨_, rfl⟩
  have hGS : vGetS b = if er = 0 ∧ es.data.toList = b.data.toList then (u, 0) else (Un.zero, 6) := by
    have e1 : (putS u = (b.data.toList, 0)) ↔ (er = 0 ∧ es.data.toList = b.data.toList) := by
      rw [her, hes, Prod.ext_iff]; exact And.comm
    rw [vGetS, if_neg (by simpa using ⟨hb6, hb167⟩), if_neg (by simpa using h2), ← hn, ← hs, HUU.out, ← hu]
    by_cases hp : putS u = (b.data.toList, 0)
    · rw [if_pos hp, if_pos (e1.1 hp)]
    · rw [if_neg hp, if_neg (fun hh => hp (e1.2 hh))]
  have HGS := Lib.hid hGS
  have HPUT := Lib.hid (fun gv W (h : GapsAt W gv u.gaps) => vPut_any u gv W fn fd fg fi h)
  have hst : strOf (putS u).1 = .string es := by rw [hes]; rfl
  rw [hst, ← her] at HPUT
  have hlo : looseU k (Un.mk (k : Int) (nu : Int) ⟨#[]⟩ 0 0 0 ⟨#[]⟩ 0 0 false []) s = (Un.mk (k : Int) (nu : Int) ⟨#[]⟩ 0 0 0 ⟨#[]⟩ 0 0 false []) := looseU_other k _ s hkd2
  rw [hlo] at hu
  have hP := fun W => HPUT.out (.slice none 0 0) W (by rw [hu]; exact GapsAt.nil W)
  rw [hu] at hP
  simp only [looseU, Un.val] at hP
  have HP := Lib.hid hP
  clear hP
  have HUE := Lib.hid hu
  clear hu hu' hGS hst hes her fn fd fg fi h2 hn hs hss hx16 hnm2 hc hk hkk hnu hkd
  have t1 : ((k : Int) == 1) = false := beq_eq_false_iff_ne.2 (by omega)
  have t2 : ((k : Int) == 2) = false := beq_eq_false_iff_ne.2 (by omega)
  have t3 : ((k : Int) == 3) = false := beq_eq_false_iff_ne.2 (by omega)
  have t4 : ((k : Int) == 4) = false := beq_eq_false_iff_ne.2 (by omega)
  have t5 : ((k : Int) == 5) = false := beq_eq_false_iff_ne.2 (by omega)
  have t6 : ((k : Int) == 6) = false := beq_eq_false_iff_ne.2 (by omega)
  have d1 : ¬ (b.size : Int) < 6 := by omega
  have d2 : ¬ (167 : Int) < b.size := by omega
  go_enter Try.func18, Try.ntmps18
  go_upto_region 4 with fail
  rw [HMI.out]
  refine gen_world (fun w' => Blk w' w.heap.size (Un.zero.cells (.slice none 0 0)) 25 ∧ Below w.heap.size w w') ⟨Blk.new w _ _, (Below.refl _ _).alloc (Nat.le_refl _) _⟩ ?_
  rintro v ⟨hU, hL⟩
  have HU := Lib.hid hU; have HL := Lib.hid hL
  clear hU hL
  refine region_calm v.heap.size (by kernel_rfl) (by kernel_rfl) ?_
  repeat (go_big_quiet_step ((first | (go_at_call 35; exact cl_call_same _ (HNB.out _)) | (go_at_call 28; exact cl_call_same _ (H16.out _)))))
  refine wpQuiet_nil ?_
  intro v1 hL1
  replace HU := Lib.hid (HU.out.below hL1 HU.out.lt)
  replace HL := Lib.hid (HL.out.trans (hL1.mono HL.out.size))
  clear hL1 q0 q1 hwh
  clear dq
  go_upto_region 7 with fail
  clear hse
  go_cut [6] (fun p wx => ∃ h, p = .pointer (some ⟨h, 0, none⟩) ∧ w.heap.size < h ∧ Blk wx h [.int .i64 (k : Int), .int .i64 (nu : Int), .string ⟨#[]⟩, .int .i64 0, .int .u32 0, .int .i64 0, .string ⟨#[]⟩, .int .i64 0, .int .i64 0, .bool false, .slice none 0 0] 25 ∧ Blk wx w.heap.size (Un.zero.cells (.slice none 0 0)) 25 ∧ Below w.heap.size w wx)
  case first =>
    have hvl := HU.out.lt
    have hs0 : 0 < s.size := by omega
    go_region_law (refine step_call rfl 35 #[.tmp 38, .const (.int .i64 1), .const (.int .i64 2)] _ rfl #[.string s, .int .i64 1, .int .i64 2] (by kernel_rfl) _ (HN1.out _) ?_; rintro v5 w5 ⟨rfl, rfl⟩)
    all_goals
      go_wp2_with fail
      go_meet
      exact ⟨v1.heap.size, by with_reducible rfl, hvl, (Blk.new v1 _ _).drew, (HU.out.alloc _).drew, (HL.out.alloc HL.out.size _).drew⟩
  case rest =>
    obtain ⟨h, rfl, hwh, hH, hU, hL⟩ := hcut
    have HH := Lib.hid hH; have HU2 := Lib.hid hU; have HL2 := Lib.hid hL
    clear hH hU hL HU HL HNB H16 HN1
    have HWH := Lib.hid hwh
    have c0 := HH.out.cell 0
    have c1 := HH.out.cell 1
    have c2 := HH.out.cell 2
    have c3 := HH.out.cell 3
    have c4 := HH.out.cell 4
    have c5 := HH.out.cell 5
    have c6 := HH.out.cell 6
    have c7 := HH.out.cell 7
    have c8 := HH.out.cell 8
    have c9 := HH.out.cell 9
    have c10 := HH.out.cell 10
    simp only [List.getElem?_cons_zero, List.getElem?_cons_succ] at c0 c1 c2 c3 c4 c5 c6 c7 c8 c9 c10
    go_wp2_with fail
    clear  c0 c1 c2 c3 c4 c5 c6 c7 c8 c9 c10
    refine (HP.out _).mono ?_
    rintro e w7 ⟨rfl, hL7⟩
    have hb7 := HH.out.lt
    replace HL2 := Lib.hid (HL2.out.trans (hL7.mono HL2.out.size))
    replace HU2 := Lib.hid (HU2.out.below hL7 HU2.out.lt)
    replace HH := Lib.hid (HH.out.below hL7 HH.out.lt)
    clear hL7 hb7
    by_cases he0 : er = 0
    case neg =>
      have HG := Lib.hid (show vGetS b = (Un.zero, 6) by rw [HGS.out, if_neg (fun hh => he0 hh.1)])
      have de : (er != 0) = true := by rw [bne_iff_ne]; exact he0
      clear he0
      go_wp2_with (refine store_blk rfl _ _ _ rfl w.heap.size 25 _ [.int .i64 0, .int .i64 0, .string ⟨#[]⟩, .int .i64 0, .int .u32 0, .int .i64 0, .string ⟨#[]⟩, .int .i64 0, .int .i64 0, .bool false, .slice none 0 0] rfl rfl HU2.out rfl (by kernel_rfl) (by kernel_rfl) ?_)
      intro w9 hU9 hK9
      have HU9 := Lib.hid hU9
      have HL9 := Lib.hid (HL2.out.trans (hK9.toBelowAt HL2.out.size (by simp)))
      clear hU9 hK9
      go_wp2_with fail
      refine ret_cell_tmp rfl w.heap.size 25 [.int .i64 0, .int .i64 0, .string ⟨#[]⟩, .int .i64 0, .int .u32 0, .int .i64 0, .string ⟨#[]⟩, .int .i64 0, .int .i64 0, .bool false, .slice none 0 0] rfl HU9.out Try.underlying25 rfl (by kernel_rfl) rfl ?_
      exact vPost_err HG.out HL9.out
    have de : (er != 0) = false := by rw [he0]; rfl
    have HE0 := Lib.hid he0
    clear he0
    by_cases he1 : es.data.toList = b.data.toList
    case neg =>
      have HG := Lib.hid (show vGetS b = (Un.zero, 6) by rw [HGS.out, if_neg (fun hh => he1 hh.2)])
      have df : (es.toList != b.toList) = true := by rw [bne_iff_ne, toList_data, toList_data]; exact he1
      have df2 : (es.toList == b.toList) = false := by simpa using df
      clear he1
      go_wp2_with (refine store_blk rfl _ _ _ rfl w.heap.size 25 _ [.int .i64 0, .int .i64 0, .string ⟨#[]⟩, .int .i64 0, .int .u32 0, .int .i64 0, .string ⟨#[]⟩, .int .i64 0, .int .i64 0, .bool false, .slice none 0 0] rfl rfl HU2.out rfl (by kernel_rfl) (by kernel_rfl) ?_)
      intro w9 hU9 hK9
      have HU9 := Lib.hid hU9
      have HL9 := Lib.hid (HL2.out.trans (hK9.toBelowAt HL2.out.size (by simp)))
      clear hU9 hK9
      go_wp2_with fail
      refine ret_cell_tmp rfl w.heap.size 25 [.int .i64 0, .int .i64 0, .string ⟨#[]⟩, .int .i64 0, .int .u32 0, .int .i64 0, .string ⟨#[]⟩, .int .i64 0, .int .i64 0, .bool false, .slice none 0 0] rfl HU9.out Try.underlying25 rfl (by kernel_rfl) rfl ?_
      exact vPost_err HG.out HL9.out
    have HG := Lib.hid (show vGetS b = (u, 0) by rw [HGS.out, if_pos ⟨HE0.out, he1⟩])
    have df : (es.toList != b.toList) = false := by rw [bne_eq_false_iff_eq, toList_data, toList_data]; exact he1
    have df2 : (es.toList == b.toList) = true := by simpa using df
    clear he1
    have c0 := HH.out.cell 0
    have c1 := HH.out.cell 1
    have c2 := HH.out.cell 2
    have c3 := HH.out.cell 3
    have c4 := HH.out.cell 4
    have c5 := HH.out.cell 5
    have c6 := HH.out.cell 6
    have c7 := HH.out.cell 7
    have c8 := HH.out.cell 8
    have c9 := HH.out.cell 9
    have c10 := HH.out.cell 10
    simp only [List.getElem?_cons_zero, List.getElem?_cons_succ] at c0 c1 c2 c3 c4 c5 c6 c7 c8 c9 c10
    go_wp2_with (refine store_blk rfl _ _ _ rfl w.heap.size 25 _ [.int .i64 (k : Int), .int .i64 (nu : Int), .string ⟨#[]⟩, .int .i64 0, .int .u32 0, .int .i64 0, .string ⟨#[]⟩, .int .i64 0, .int .i64 0, .bool false, .slice none 0 0] rfl rfl HU2.out rfl (by kernel_rfl) (by simp [Value.oneCell']) ?_)
    intro w9 hU9 hK9
    have HU9 := Lib.hid hU9
    have HL9 := Lib.hid (HL2.out.trans (hK9.toBelowAt HL2.out.size (by simp)))
    clear hU9 hK9
    go_wp2_with fail
    refine ret_cell_tmp rfl w.heap.size 25 [.int .i64 (k : Int), .int .i64 (nu : Int), .string ⟨#[]⟩, .int .i64 0, .int .u32 0, .int .i64 0, .string ⟨#[]⟩, .int .i64 0, .int .i64 0, .bool false, .slice none 0 0] rfl HU9.out Try.underlying25 rfl (by kernel_rfl) rfl ?_
    refine ⟨.slice none 0 0, ?_, ?_, HL9.out⟩
    · rw [HG.out, HUE.out]; rfl
    · rw [HG.out, HUE.out]; exact GapsAt.nil _
set_option maxHeartbeats 16000000 in
set_option maxRecDepth 100000 in
theorem vGet_k1 (b : ByteArray) (w : World) (h : 6 ≤ b.size ∧ b.size ≤ 167) (h2 : (vnum b (b.size - 2) 2 : Int) = w16 (sum16 (b.extract 0 (b.size - 2)).data.toList)) (hkd : kindOf (b.extract 0 (b.size - 2)) = 1) : Calls Try.prog 18 #[.string b] w (VPost b w) := by
  obtain ⟨n, hn⟩ : ∃ n, n = b.size - 2 := ⟨_, rfl⟩
  obtain ⟨hb6, hb167⟩ := h
  have HMI := Lib.hid (show (b.size : Int) - 2 = (n : Int) by omega)
  have hn1 : n ≤ 165 := by omega
  have hn2 : 4 ≤ n := by omega
  have hnb : n ≤ b.size := by omega
  have hnb' : (n : Int) ≤ (b.size : Int) := by omega
  obtain ⟨s, hs⟩ : ∃ s, s = b.extract 0 n := ⟨_, rfl⟩
  have hss : s.size = n := by rw [hs]; simp; omega
  have hsz : s.size ≤ 165 := by omega
  have hsz4 : 4 ≤ s.size := by omega
  obtain ⟨x16, hx16⟩ : ∃ x, x = sum16 s.data.toList := ⟨_, rfl⟩
  obtain ⟨nm2, hnm2⟩ : ∃ x, x = vnum b n 2 := ⟨_, rfl⟩
  have q0 := w16_nonneg x16
  have q1 := w16_lt x16
  have hwh : IntKind.i64.wrap (w16 x16) = w16 x16 := IntWalk.i64_in _ (by omega)
  have H16 := Lib.hid (fun W => rSum16 s W (by omega))
  have HNB := Lib.hid (fun W => vnumber_any b n 2 W (by omega) (by omega) (by omega))
  rw [← hx16] at H16
  rw [← hnm2] at HNB
  have HS := Lib.hid hs; have HSS := Lib.hid hss
  have hse : b.extract 0 n = s := hs.symm
  have dq : (((nm2 : Nat) : Int) != w16 x16) = false := by
    rw [bne_eq_false_iff_eq, hnm2, hx16, hs, hn]; exact h2
  obtain ⟨c, hc⟩ : ∃ c, c = s.data.toList.headD 0 := ⟨_, rfl⟩
  have hgt : s[0]'(Nat.lt_of_lt_of_le (by decide) hsz4) = c := by
    rw [hc]
    have : 0 < s.data.toList.length := by rw [← size_list]; omega
    cases e : s.data.toList with
    | nil => rw [e] at this; simp at this
    | cons a l => show s.data.toList[0]'(by rw [← size_list]; omega) = _; simp only [e]; rfl
  obtain ⟨k, hk⟩ : ∃ k, k = c.toNat := ⟨_, rfl⟩
  have hkk : kindOf s = k := by rw [hk, hc]; rfl
  have hk256 : k < 256 := by rw [hk]; exact c.toNat_lt
  have hwc : IntKind.i64.wrap ((c.toNat : Nat) : Int) = (k : Int) := by rw [← hk]; exact IntWalk.i64_in _ (by omega)
  obtain ⟨nu, hnu⟩ : ∃ nu, nu = vnum s 1 2 := ⟨_, rfl⟩
  have hnul : nu < 4294967296 := by rw [hnu]; exact vnum_lt s 1 2 (by omega)
  have HN1 := Lib.hid (fun W => vnumber_new s 1 2 W (by omega) (by omega) (by omega))
  rw [← hnu] at HN1
  have hkd2 : k = 1 := by rw [← hkk, hs, hn]; exact hkd
  have HUU := Lib.hid (show vGetU s = looseU 1 (Un.mk (k : Int) (nu : Int) ⟨#[]⟩ 0 0 0 ⟨#[]⟩ 0 0 false []) s by rw [vGetU, hkk, ← hnu]; exact congrArg (fun j => looseU j (Un.mk (k : Int) (nu : Int) ⟨#[]⟩ 0 0 0 ⟨#[]⟩ 0 0 false []) s) hkd2)
  obtain ⟨u, hu⟩ : ∃ u, u = looseU 1 (Un.mk (k : Int) (nu : Int) ⟨#[]⟩ 0 0 0 ⟨#[]⟩ 0 0 false []) s := ⟨_, rfl⟩
  have hu' : u = looseU k (Un.mk (k : Int) (nu : Int) ⟨#[]⟩ 0 0 0 ⟨#[]⟩ 0 0 false []) s := by rw [hu]; exact congrArg (fun j => looseU j (Un.mk (k : Int) (nu : Int) ⟨#[]⟩ 0 0 0 ⟨#[]⟩ 0 0 false []) s) hkd2.symm
  obtain ⟨fn, fd, fg, fi⟩ := looseU_fine k nu s (by omega) (by omega) hnul
  rw [← hu'] at fn fd fg fi
  obtain ⟨es, hes⟩ : ∃ es : ByteArray, es = ⟨(putS u).1.toArray⟩ := ⟨_, rfl⟩
  obtain ⟨er, her⟩ : ∃ er, er = (putS u).2 := ⟨_, rfl⟩
  have hGS : vGetS b = if er = 0 ∧ es.data.toList = b.data.toList then (u, 0) else (Un.zero, 6) := by
    have e1 : (putS u = (b.data.toList, 0)) ↔ (er = 0 ∧ es.data.toList = b.data.toList) := by
      rw [her, hes, Prod.ext_iff]; exact And.comm
    rw [vGetS, if_neg (by simpa using ⟨hb6, hb167⟩), if_neg (by simpa using h2), ← hn, ← hs, HUU.out, ← hu]
    by_cases hp : putS u = (b.data.toList, 0)
    · rw [if_pos hp, if_pos (e1.1 hp)]
    · rw [if_neg hp, if_neg (fun hh => hp (e1.2 hh))]
  have HGS := Lib.hid hGS
  have HPUT := Lib.hid (fun gv W (h : GapsAt W gv u.gaps) => vPut_any u gv W fn fd fg fi h)
  have hst : strOf (putS u).1 = .string es := by rw [hes]; rfl
  rw [hst, ← her] at HPUT
  have hP := fun W => HPUT.out (.slice none 0 0) W (by rw [hu]; exact GapsAt.nil W)
  rw [hu] at hP
  simp only [looseU, Un.val] at hP
  have HP := Lib.hid hP
  clear hP
  have HUE := Lib.hid hu
  clear hu hu' hGS hst hes her fn fd fg fi h2 hn hs hss hx16 hnm2 hc hk hkk hnu hkd
  have t1 : ((k : Int) == 1) = true := beq_iff_eq.2 (by omega)
  have t2 : ((k : Int) == 2) = false := beq_eq_false_iff_ne.2 (by omega)
  have t3 : ((k : Int) == 3) = false := beq_eq_false_iff_ne.2 (by omega)
  have t4 : ((k : Int) == 4) = false := beq_eq_false_iff_ne.2 (by omega)
  have t5 : ((k : Int) == 5) = false := beq_eq_false_iff_ne.2 (by omega)
  have t6 : ((k : Int) == 6) = false := beq_eq_false_iff_ne.2 (by omega)
  have HKD := Lib.hid hkd2
  clear hkd2
  have d1 : ¬ (b.size : Int) < 6 := by omega
  have d2 : ¬ (167 : Int) < b.size := by omega
  go_enter Try.func18, Try.ntmps18
  go_upto_region 4 with fail
  rw [HMI.out]
  refine gen_world (fun w' => Blk w' w.heap.size (Un.zero.cells (.slice none 0 0)) 25 ∧ Below w.heap.size w w') ⟨Blk.new w _ _, (Below.refl _ _).alloc (Nat.le_refl _) _⟩ ?_
  rintro v ⟨hU, hL⟩
  have HU := Lib.hid hU; have HL := Lib.hid hL
  clear hU hL
  refine region_calm v.heap.size (by kernel_rfl) (by kernel_rfl) ?_
  repeat (go_big_quiet_step ((first | (go_at_call 35; exact cl_call_same _ (HNB.out _)) | (go_at_call 28; exact cl_call_same _ (H16.out _)))))
  refine wpQuiet_nil ?_
  intro v1 hL1
  replace HU := Lib.hid (HU.out.below hL1 HU.out.lt)
  replace HL := Lib.hid (HL.out.trans (hL1.mono HL.out.size))
  clear hL1 q0 q1 hwh
  clear dq
  go_upto_region 7 with fail
  clear hse
  go_cut [6] (fun p wx => ∃ h, p = .pointer (some ⟨h, 0, none⟩) ∧ w.heap.size < h ∧ Blk wx h [.int .i64 (k : Int), .int .i64 (nu : Int), .string ⟨#[]⟩, .int .i64 0, .int .u32 0, .int .i64 0, .string ⟨#[]⟩, .int .i64 0, .int .i64 0, .bool false, .slice none 0 0] 25 ∧ Blk wx w.heap.size (Un.zero.cells (.slice none 0 0)) 25 ∧ Below w.heap.size w wx)
  case first =>
    have hvl := HU.out.lt
    have hs0 : 0 < s.size := by omega
    go_region_law (refine step_call rfl 35 #[.tmp 38, .const (.int .i64 1), .const (.int .i64 2)] _ rfl #[.string s, .int .i64 1, .int .i64 2] (by kernel_rfl) _ (HN1.out _) ?_; rintro v5 w5 ⟨rfl, rfl⟩)
    all_goals
      go_wp2_with fail
      go_meet
      exact ⟨v1.heap.size, by with_reducible rfl, hvl, (Blk.new v1 _ _).drew, (HU.out.alloc _).drew, (HL.out.alloc HL.out.size _).drew⟩
  case rest =>
    obtain ⟨h, rfl, hwh, hH, hU, hL⟩ := hcut
    have HH := Lib.hid hH; have HU2 := Lib.hid hU; have HL2 := Lib.hid hL
    clear hH hU hL HU HL HNB H16 HN1
    have HWH := Lib.hid hwh
    have f2 := HH.out.free 2
    have f3 := HH.out.free 3
    have c0 := HH.out.cell 0
    have c1 := HH.out.cell 1
    have c2 := HH.out.cell 2
    have c3 := HH.out.cell 3
    have c4 := HH.out.cell 4
    have c5 := HH.out.cell 5
    have c6 := HH.out.cell 6
    have c7 := HH.out.cell 7
    have c8 := HH.out.cell 8
    have c9 := HH.out.cell 9
    have c10 := HH.out.cell 10
    simp only [List.getElem?_cons_zero, List.getElem?_cons_succ] at c0 c1 c2 c3 c4 c5 c6 c7 c8 c9 c10
    go_wp2_with fail
    refine (vnumber_any s 3 2 _ (by omega) (by omega) (by omega)).mono ?_
    rintro e _ ⟨rfl, rfl⟩
    go_wp2_with fail
    refine (vrest_any s 5 _ (by omega) (by omega)).mono ?_
    rintro e _ ⟨rfl, rfl⟩
    go_wp2_with fail
    replace HH := Lib.hid (HH.out.set 3 (.int .i64 (vnum s 3 2 : Int)))
    replace HU2 := Lib.hid (HU2.out.set_far (p := ⟨h, 3, none⟩) (by have := HWH.out; simp; omega) (.int .i64 (vnum s 3 2 : Int)))
    replace HL2 := Lib.hid (HL2.out.setCell (p := ⟨h, 3, none⟩) (by have := HWH.out; simp; omega) (.int .i64 (vnum s 3 2 : Int)))
    replace HH := Lib.hid (HH.out.set 2 (.string (vrst s 5)))
    replace HU2 := Lib.hid (HU2.out.set_far (p := ⟨h, 2, none⟩) (by have := HWH.out; simp; omega) (.string (vrst s 5)))
    replace HL2 := Lib.hid (HL2.out.setCell (p := ⟨h, 2, none⟩) (by have := HWH.out; simp; omega) (.string (vrst s 5)))
    simp only [List.set_cons_zero, List.set_cons_succ] at HH
    clear f2 f3 c0 c1 c2 c3 c4 c5 c6 c7 c8 c9 c10
    refine (HP.out _).mono ?_
    rintro e w7 ⟨rfl, hL7⟩
    have hb7 := HH.out.lt
    replace HL2 := Lib.hid (HL2.out.trans (hL7.mono HL2.out.size))
    replace HU2 := Lib.hid (HU2.out.below hL7 HU2.out.lt)
    replace HH := Lib.hid (HH.out.below hL7 HH.out.lt)
    clear hL7 hb7
    by_cases he0 : er = 0
    case neg =>
      have HG := Lib.hid (show vGetS b = (Un.zero, 6) by rw [HGS.out, if_neg (fun hh => he0 hh.1)])
      have de : (er != 0) = true := by rw [bne_iff_ne]; exact he0
      clear he0
      go_wp2_with (refine store_blk rfl _ _ _ rfl w.heap.size 25 _ [.int .i64 0, .int .i64 0, .string ⟨#[]⟩, .int .i64 0, .int .u32 0, .int .i64 0, .string ⟨#[]⟩, .int .i64 0, .int .i64 0, .bool false, .slice none 0 0] rfl rfl HU2.out rfl (by kernel_rfl) (by kernel_rfl) ?_)
      intro w9 hU9 hK9
      have HU9 := Lib.hid hU9
      have HL9 := Lib.hid (HL2.out.trans (hK9.toBelowAt HL2.out.size (by simp)))
      clear hU9 hK9
      go_wp2_with fail
      refine ret_cell_tmp rfl w.heap.size 25 [.int .i64 0, .int .i64 0, .string ⟨#[]⟩, .int .i64 0, .int .u32 0, .int .i64 0, .string ⟨#[]⟩, .int .i64 0, .int .i64 0, .bool false, .slice none 0 0] rfl HU9.out Try.underlying25 rfl (by kernel_rfl) rfl ?_
      exact vPost_err HG.out HL9.out
    have de : (er != 0) = false := by rw [he0]; rfl
    have HE0 := Lib.hid he0
    clear he0
    by_cases he1 : es.data.toList = b.data.toList
    case neg =>
      have HG := Lib.hid (show vGetS b = (Un.zero, 6) by rw [HGS.out, if_neg (fun hh => he1 hh.2)])
      have df : (es.toList != b.toList) = true := by rw [bne_iff_ne, toList_data, toList_data]; exact he1
      have df2 : (es.toList == b.toList) = false := by simpa using df
      clear he1
      go_wp2_with (refine store_blk rfl _ _ _ rfl w.heap.size 25 _ [.int .i64 0, .int .i64 0, .string ⟨#[]⟩, .int .i64 0, .int .u32 0, .int .i64 0, .string ⟨#[]⟩, .int .i64 0, .int .i64 0, .bool false, .slice none 0 0] rfl rfl HU2.out rfl (by kernel_rfl) (by kernel_rfl) ?_)
      intro w9 hU9 hK9
      have HU9 := Lib.hid hU9
      have HL9 := Lib.hid (HL2.out.trans (hK9.toBelowAt HL2.out.size (by simp)))
      clear hU9 hK9
      go_wp2_with fail
      refine ret_cell_tmp rfl w.heap.size 25 [.int .i64 0, .int .i64 0, .string ⟨#[]⟩, .int .i64 0, .int .u32 0, .int .i64 0, .string ⟨#[]⟩, .int .i64 0, .int .i64 0, .bool false, .slice none 0 0] rfl HU9.out Try.underlying25 rfl (by kernel_rfl) rfl ?_
      exact vPost_err HG.out HL9.out
    have HG := Lib.hid (show vGetS b = (u, 0) by rw [HGS.out, if_pos ⟨HE0.out, he1⟩])
    have df : (es.toList != b.toList) = false := by rw [bne_eq_false_iff_eq, toList_data, toList_data]; exact he1
    have df2 : (es.toList == b.toList) = true := by simpa using df
    clear he1
    have c0 := HH.out.cell 0
    have c1 := HH.out.cell 1
    have c2 := HH.out.cell 2
    have c3 := HH.out.cell 3
    have c4 := HH.out.cell 4
    have c5 := HH.out.cell 5
    have c6 := HH.out.cell 6
    have c7 := HH.out.cell 7
    have c8 := HH.out.cell 8
    have c9 := HH.out.cell 9
    have c10 := HH.out.cell 10
    simp only [List.getElem?_cons_zero, List.getElem?_cons_succ] at c0 c1 c2 c3 c4 c5 c6 c7 c8 c9 c10
    go_wp2_with (refine store_blk rfl _ _ _ rfl w.heap.size 25 _ [.int .i64 (k : Int), .int .i64 (nu : Int), .string (vrst s 5), .int .i64 (vnum s 3 2 : Int), .int .u32 0, .int .i64 0, .string ⟨#[]⟩, .int .i64 0, .int .i64 0, .bool false, .slice none 0 0] rfl rfl HU2.out rfl (by kernel_rfl) (by simp [Value.oneCell']) ?_)
    intro w9 hU9 hK9
    have HU9 := Lib.hid hU9
    have HL9 := Lib.hid (HL2.out.trans (hK9.toBelowAt HL2.out.size (by simp)))
    clear hU9 hK9
    go_wp2_with fail
    refine ret_cell_tmp rfl w.heap.size 25 [.int .i64 (k : Int), .int .i64 (nu : Int), .string (vrst s 5), .int .i64 (vnum s 3 2 : Int), .int .u32 0, .int .i64 0, .string ⟨#[]⟩, .int .i64 0, .int .i64 0, .bool false, .slice none 0 0] rfl HU9.out Try.underlying25 rfl (by kernel_rfl) rfl ?_
    refine ⟨.slice none 0 0, ?_, ?_, HL9.out⟩
    · rw [HG.out, HUE.out]; rfl
    · rw [HG.out, HUE.out]; exact GapsAt.nil _
set_option maxHeartbeats 16000000 in
set_option maxRecDepth 100000 in
theorem vGet_k2 (b : ByteArray) (w : World) (h : 6 ≤ b.size ∧ b.size ≤ 167) (h2 : (vnum b (b.size - 2) 2 : Int) = w16 (sum16 (b.extract 0 (b.size - 2)).data.toList)) (hkd : kindOf (b.extract 0 (b.size - 2)) = 2) : Calls Try.prog 18 #[.string b] w (VPost b w) := by
  obtain ⟨n, hn⟩ : ∃ n, n = b.size - 2 := ⟨_, rfl⟩
  obtain ⟨hb6, hb167⟩ := h
  have HMI := Lib.hid (show (b.size : Int) - 2 = (n : Int) by omega)
  have hn1 : n ≤ 165 := by omega
  have hn2 : 4 ≤ n := by omega
  have hnb : n ≤ b.size := by omega
  have hnb' : (n : Int) ≤ (b.size : Int) := by omega
  obtain ⟨s, hs⟩ : ∃ s, s = b.extract 0 n := ⟨_, rfl⟩
  have hss : s.size = n := by rw [hs]; simp; omega
  have hsz : s.size ≤ 165 := by omega
  have hsz4 : 4 ≤ s.size := by omega
  obtain ⟨x16, hx16⟩ : ∃ x, x = sum16 s.data.toList := ⟨_, rfl⟩
  obtain ⟨nm2, hnm2⟩ : ∃ x, x = vnum b n 2 := ⟨_, rfl⟩
  have q0 := w16_nonneg x16
  have q1 := w16_lt x16
  have hwh : IntKind.i64.wrap (w16 x16) = w16 x16 := IntWalk.i64_in _ (by omega)
  have H16 := Lib.hid (fun W => rSum16 s W (by omega))
  have HNB := Lib.hid (fun W => vnumber_any b n 2 W (by omega) (by omega) (by omega))
  rw [← hx16] at H16
  rw [← hnm2] at HNB
  have HS := Lib.hid hs; have HSS := Lib.hid hss
  have hse : b.extract 0 n = s := hs.symm
  have dq : (((nm2 : Nat) : Int) != w16 x16) = false := by
    rw [bne_eq_false_iff_eq, hnm2, hx16, hs, hn]; exact h2
  obtain ⟨c, hc⟩ : ∃ c, c = s.data.toList.headD 0 := ⟨_, rfl⟩
  have hgt : s[0]'(Nat.lt_of_lt_of_le (by decide) hsz4) = c := by
    rw [hc]
    have : 0 < s.data.toList.length := by rw [← size_list]; omega
    cases e : s.data.toList with
    | nil => rw [e] at this; simp at this
    | cons a l => show s.data.toList[0]'(by rw [← size_list]; omega) = _; simp only [e]; rfl
  obtain ⟨k, hk⟩ : ∃ k, k = c.toNat := ⟨_, rfl⟩
  have hkk : kindOf s = k := by rw [hk, hc]; rfl
  have hk256 : k < 256 := by rw [hk]; exact c.toNat_lt
  have hwc : IntKind.i64.wrap ((c.toNat : Nat) : Int) = (k : Int) := by rw [← hk]; exact IntWalk.i64_in _ (by omega)
  obtain ⟨nu, hnu⟩ : ∃ nu, nu = vnum s 1 2 := ⟨_, rfl⟩
  have hnul : nu < 4294967296 := by rw [hnu]; exact vnum_lt s 1 2 (by omega)
  have HN1 := Lib.hid (fun W => vnumber_new s 1 2 W (by omega) (by omega) (by omega))
  rw [← hnu] at HN1
  have hkd2 : k = 2 := by rw [← hkk, hs, hn]; exact hkd
  have HUU := Lib.hid (show vGetU s = looseU 2 (Un.mk (k : Int) (nu : Int) ⟨#[]⟩ 0 0 0 ⟨#[]⟩ 0 0 false []) s by rw [vGetU, hkk, ← hnu]; exact congrArg (fun j => looseU j (Un.mk (k : Int) (nu : Int) ⟨#[]⟩ 0 0 0 ⟨#[]⟩ 0 0 false []) s) hkd2)
  obtain ⟨u, hu⟩ : ∃ u, u = looseU 2 (Un.mk (k : Int) (nu : Int) ⟨#[]⟩ 0 0 0 ⟨#[]⟩ 0 0 false []) s := ⟨_, rfl⟩
  have hu' : u = looseU k (Un.mk (k : Int) (nu : Int) ⟨#[]⟩ 0 0 0 ⟨#[]⟩ 0 0 false []) s := by rw [hu]; exact congrArg (fun j => looseU j (Un.mk (k : Int) (nu : Int) ⟨#[]⟩ 0 0 0 ⟨#[]⟩ 0 0 false []) s) hkd2.symm
  obtain ⟨fn, fd, fg, fi⟩ := looseU_fine k nu s (by omega) (by omega) hnul
  rw [← hu'] at fn fd fg fi
  obtain ⟨es, hes⟩ : ∃ es : ByteArray, es = ⟨(putS u).1.toArray⟩ := ⟨_, rfl⟩
  obtain ⟨er, her⟩ : ∃ er, er = (putS u).2 := ⟨_, rfl⟩
  have hGS : vGetS b = if er = 0 ∧ es.data.toList = b.data.toList then (u, 0) else (Un.zero, 6) := by
    have e1 : (putS u = (b.data.toList, 0)) ↔ (er = 0 ∧ es.data.toList = b.data.toList) := by
      rw [her, hes, Prod.ext_iff]; exact And.comm
    rw [vGetS, if_neg (by simpa using ⟨hb6, hb167⟩), if_neg (by simpa using h2), ← hn, ← hs, HUU.out, ← hu]
    by_cases hp : putS u = (b.data.toList, 0)
    · rw [if_pos hp, if_pos (e1.1 hp)]
    · rw [if_neg hp, if_neg (fun hh => hp (e1.2 hh))]
  have HGS := Lib.hid hGS
  have HPUT := Lib.hid (fun gv W (h : GapsAt W gv u.gaps) => vPut_any u gv W fn fd fg fi h)
  have hst : strOf (putS u).1 = .string es := by rw [hes]; rfl
  rw [hst, ← her] at HPUT
  have hP := fun W => HPUT.out (.slice none 0 0) W (by rw [hu]; exact GapsAt.nil W)
  rw [hu] at hP
  simp only [looseU, Un.val] at hP
  have HP := Lib.hid hP
  clear hP
  have HUE := Lib.hid hu
  clear hu hu' hGS hst hes her fn fd fg fi h2 hn hs hss hx16 hnm2 hc hk hkk hnu hkd
  have t1 : ((k : Int) == 1) = false := beq_eq_false_iff_ne.2 (by omega)
  have t2 : ((k : Int) == 2) = true := beq_iff_eq.2 (by omega)
  have t3 : ((k : Int) == 3) = false := beq_eq_false_iff_ne.2 (by omega)
  have t4 : ((k : Int) == 4) = false := beq_eq_false_iff_ne.2 (by omega)
  have t5 : ((k : Int) == 5) = false := beq_eq_false_iff_ne.2 (by omega)
  have t6 : ((k : Int) == 6) = false := beq_eq_false_iff_ne.2 (by omega)
  have HKD := Lib.hid hkd2
  clear hkd2
  have d1 : ¬ (b.size : Int) < 6 := by omega
  have d2 : ¬ (167 : Int) < b.size := by omega
  go_enter Try.func18, Try.ntmps18
  go_upto_region 4 with fail
  rw [HMI.out]
  refine gen_world (fun w' => Blk w' w.heap.size (Un.zero.cells (.slice none 0 0)) 25 ∧ Below w.heap.size w w') ⟨Blk.new w _ _, (Below.refl _ _).alloc (Nat.le_refl _) _⟩ ?_
  rintro v ⟨hU, hL⟩
  have HU := Lib.hid hU; have HL := Lib.hid hL
  clear hU hL
  refine region_calm v.heap.size (by kernel_rfl) (by kernel_rfl) ?_
  repeat (go_big_quiet_step ((first | (go_at_call 35; exact cl_call_same _ (HNB.out _)) | (go_at_call 28; exact cl_call_same _ (H16.out _)))))
  refine wpQuiet_nil ?_
  intro v1 hL1
  replace HU := Lib.hid (HU.out.below hL1 HU.out.lt)
  replace HL := Lib.hid (HL.out.trans (hL1.mono HL.out.size))
  clear hL1 q0 q1 hwh
  clear dq
  go_upto_region 7 with fail
  clear hse
  go_cut [6] (fun p wx => ∃ h, p = .pointer (some ⟨h, 0, none⟩) ∧ w.heap.size < h ∧ Blk wx h [.int .i64 (k : Int), .int .i64 (nu : Int), .string ⟨#[]⟩, .int .i64 0, .int .u32 0, .int .i64 0, .string ⟨#[]⟩, .int .i64 0, .int .i64 0, .bool false, .slice none 0 0] 25 ∧ Blk wx w.heap.size (Un.zero.cells (.slice none 0 0)) 25 ∧ Below w.heap.size w wx)
  case first =>
    have hvl := HU.out.lt
    have hs0 : 0 < s.size := by omega
    go_region_law (refine step_call rfl 35 #[.tmp 38, .const (.int .i64 1), .const (.int .i64 2)] _ rfl #[.string s, .int .i64 1, .int .i64 2] (by kernel_rfl) _ (HN1.out _) ?_; rintro v5 w5 ⟨rfl, rfl⟩)
    all_goals
      go_wp2_with fail
      go_meet
      exact ⟨v1.heap.size, by with_reducible rfl, hvl, (Blk.new v1 _ _).drew, (HU.out.alloc _).drew, (HL.out.alloc HL.out.size _).drew⟩
  case rest =>
    obtain ⟨h, rfl, hwh, hH, hU, hL⟩ := hcut
    have HH := Lib.hid hH; have HU2 := Lib.hid hU; have HL2 := Lib.hid hL
    clear hH hU hL HU HL HNB H16 HN1
    have HWH := Lib.hid hwh
    have f5 := HH.out.free 5
    have f6 := HH.out.free 6
    have c0 := HH.out.cell 0
    have c1 := HH.out.cell 1
    have c2 := HH.out.cell 2
    have c3 := HH.out.cell 3
    have c4 := HH.out.cell 4
    have c5 := HH.out.cell 5
    have c6 := HH.out.cell 6
    have c7 := HH.out.cell 7
    have c8 := HH.out.cell 8
    have c9 := HH.out.cell 9
    have c10 := HH.out.cell 10
    simp only [List.getElem?_cons_zero, List.getElem?_cons_succ] at c0 c1 c2 c3 c4 c5 c6 c7 c8 c9 c10
    go_wp2_with fail
    refine (vnumber_any s 3 2 _ (by omega) (by omega) (by omega)).mono ?_
    rintro e _ ⟨rfl, rfl⟩
    go_wp2_with fail
    refine (vrest_any s 5 _ (by omega) (by omega)).mono ?_
    rintro e _ ⟨rfl, rfl⟩
    go_wp2_with fail
    replace HH := Lib.hid (HH.out.set 5 (.int .i64 (vnum s 3 2 : Int)))
    replace HU2 := Lib.hid (HU2.out.set_far (p := ⟨h, 5, none⟩) (by have := HWH.out; simp; omega) (.int .i64 (vnum s 3 2 : Int)))
    replace HL2 := Lib.hid (HL2.out.setCell (p := ⟨h, 5, none⟩) (by have := HWH.out; simp; omega) (.int .i64 (vnum s 3 2 : Int)))
    replace HH := Lib.hid (HH.out.set 6 (.string (vrst s 5)))
    replace HU2 := Lib.hid (HU2.out.set_far (p := ⟨h, 6, none⟩) (by have := HWH.out; simp; omega) (.string (vrst s 5)))
    replace HL2 := Lib.hid (HL2.out.setCell (p := ⟨h, 6, none⟩) (by have := HWH.out; simp; omega) (.string (vrst s 5)))
    simp only [List.set_cons_zero, List.set_cons_succ] at HH
    clear f5 f6 c0 c1 c2 c3 c4 c5 c6 c7 c8 c9 c10
    refine (HP.out _).mono ?_
    rintro e w7 ⟨rfl, hL7⟩
    have hb7 := HH.out.lt
    replace HL2 := Lib.hid (HL2.out.trans (hL7.mono HL2.out.size))
    replace HU2 := Lib.hid (HU2.out.below hL7 HU2.out.lt)
    replace HH := Lib.hid (HH.out.below hL7 HH.out.lt)
    clear hL7 hb7
    by_cases he0 : er = 0
    case neg =>
      have HG := Lib.hid (show vGetS b = (Un.zero, 6) by rw [HGS.out, if_neg (fun hh => he0 hh.1)])
      have de : (er != 0) = true := by rw [bne_iff_ne]; exact he0
      clear he0
      go_wp2_with (refine store_blk rfl _ _ _ rfl w.heap.size 25 _ [.int .i64 0, .int .i64 0, .string ⟨#[]⟩, .int .i64 0, .int .u32 0, .int .i64 0, .string ⟨#[]⟩, .int .i64 0, .int .i64 0, .bool false, .slice none 0 0] rfl rfl HU2.out rfl (by kernel_rfl) (by kernel_rfl) ?_)
      intro w9 hU9 hK9
      have HU9 := Lib.hid hU9
      have HL9 := Lib.hid (HL2.out.trans (hK9.toBelowAt HL2.out.size (by simp)))
      clear hU9 hK9
      go_wp2_with fail
      refine ret_cell_tmp rfl w.heap.size 25 [.int .i64 0, .int .i64 0, .string ⟨#[]⟩, .int .i64 0, .int .u32 0, .int .i64 0, .string ⟨#[]⟩, .int .i64 0, .int .i64 0, .bool false, .slice none 0 0] rfl HU9.out Try.underlying25 rfl (by kernel_rfl) rfl ?_
      exact vPost_err HG.out HL9.out
    have de : (er != 0) = false := by rw [he0]; rfl
    have HE0 := Lib.hid he0
    clear he0
    by_cases he1 : es.data.toList = b.data.toList
    case neg =>
      have HG := Lib.hid (show vGetS b = (Un.zero, 6) by rw [HGS.out, if_neg (fun hh => he1 hh.2)])
      have df : (es.toList != b.toList) = true := by rw [bne_iff_ne, toList_data, toList_data]; exact he1
      have df2 : (es.toList == b.toList) = false := by simpa using df
      clear he1
      go_wp2_with (refine store_blk rfl _ _ _ rfl w.heap.size 25 _ [.int .i64 0, .int .i64 0, .string ⟨#[]⟩, .int .i64 0, .int .u32 0, .int .i64 0, .string ⟨#[]⟩, .int .i64 0, .int .i64 0, .bool false, .slice none 0 0] rfl rfl HU2.out rfl (by kernel_rfl) (by kernel_rfl) ?_)
      intro w9 hU9 hK9
      have HU9 := Lib.hid hU9
      have HL9 := Lib.hid (HL2.out.trans (hK9.toBelowAt HL2.out.size (by simp)))
      clear hU9 hK9
      go_wp2_with fail
      refine ret_cell_tmp rfl w.heap.size 25 [.int .i64 0, .int .i64 0, .string ⟨#[]⟩, .int .i64 0, .int .u32 0, .int .i64 0, .string ⟨#[]⟩, .int .i64 0, .int .i64 0, .bool false, .slice none 0 0] rfl HU9.out Try.underlying25 rfl (by kernel_rfl) rfl ?_
      exact vPost_err HG.out HL9.out
    have HG := Lib.hid (show vGetS b = (u, 0) by rw [HGS.out, if_pos ⟨HE0.out, he1⟩])
    have df : (es.toList != b.toList) = false := by rw [bne_eq_false_iff_eq, toList_data, toList_data]; exact he1
    have df2 : (es.toList == b.toList) = true := by simpa using df
    clear he1
    have c0 := HH.out.cell 0
    have c1 := HH.out.cell 1
    have c2 := HH.out.cell 2
    have c3 := HH.out.cell 3
    have c4 := HH.out.cell 4
    have c5 := HH.out.cell 5
    have c6 := HH.out.cell 6
    have c7 := HH.out.cell 7
    have c8 := HH.out.cell 8
    have c9 := HH.out.cell 9
    have c10 := HH.out.cell 10
    simp only [List.getElem?_cons_zero, List.getElem?_cons_succ] at c0 c1 c2 c3 c4 c5 c6 c7 c8 c9 c10
    go_wp2_with (refine store_blk rfl _ _ _ rfl w.heap.size 25 _ [.int .i64 (k : Int), .int .i64 (nu : Int), .string ⟨#[]⟩, .int .i64 0, .int .u32 0, .int .i64 (vnum s 3 2 : Int), .string (vrst s 5), .int .i64 0, .int .i64 0, .bool false, .slice none 0 0] rfl rfl HU2.out rfl (by kernel_rfl) (by simp [Value.oneCell']) ?_)
    intro w9 hU9 hK9
    have HU9 := Lib.hid hU9
    have HL9 := Lib.hid (HL2.out.trans (hK9.toBelowAt HL2.out.size (by simp)))
    clear hU9 hK9
    go_wp2_with fail
    refine ret_cell_tmp rfl w.heap.size 25 [.int .i64 (k : Int), .int .i64 (nu : Int), .string ⟨#[]⟩, .int .i64 0, .int .u32 0, .int .i64 (vnum s 3 2 : Int), .string (vrst s 5), .int .i64 0, .int .i64 0, .bool false, .slice none 0 0] rfl HU9.out Try.underlying25 rfl (by kernel_rfl) rfl ?_
    refine ⟨.slice none 0 0, ?_, ?_, HL9.out⟩
    · rw [HG.out, HUE.out]; rfl
    · rw [HG.out, HUE.out]; exact GapsAt.nil _
end Go.Proofs.Ytkpgenmlpkfokaa
