/- What is proved here: the walk of the law that what is sealed is opened. -/
import Derived.Test.YtincoocagfegfaaU14
import Derived.Test.YtincoocagfegfaaU18
import Derived.Test.YtincoocagfegfaaOt
import Derived.Test.YtincoocagfegfaaK11
import Derived.Deep.DeepCutAuto
import Derived.BigQuiet
set_option linter.unusedVariables false
set_option linter.unusedSimpArgs false
namespace Go.Proofs.Ytincoocagfegfaa
open Go.RowKit
theorem key_bool (key : ByteArray) (hk : key.size = 16) : ((key.size : Int) == 16) = true := by rw [hk]; rfl
theorem key_bool' (key : ByteArray) (hk : key.size ≠ 16) : ((key.size : Int) == 16) = false := by
  cases h : ((key.size : Int) == 16)
  · rfl
  · exact absurd (by simpa using h) (show ¬ (key.size : Int) = 16 by omega)
theorem aOpen_seal (g : Nat) (key : ByteArray) (c : Cm) (w : World) (hk : key.size = 16) (hc : c.ok) (hB : Gd w g key Gs.zero) :
    Calls Try.prog 16 #[.pointer (some ⟨g, 0, none⟩), .int .i64 c.chan, .string ⟨(sealL key.data.toList c).toArray⟩] w fun e w' => ∃ sv, e = .returned (.tuple #[c.val, .string sv, .int .i64 0]) ∧ Keep [g] w w' := by
  have hl : (sealL key.data.toList c).length = 17 + c.args.size := by rw [sealL, List.length_append, bodyL_length, sumL_length]; omega
  have hcn : ¬ (c.cnt.toNat ≤ (Gs.zero.l c.chan.toNat).toNat) := by
    have h3 := hc.2.2.1
    intro h
    have : c.cnt.toNat = 0 := Nat.le_zero.1 h
    exact h3 (BitVec.eq_of_toNat_eq this)
  have h6 := hc.2.2.2.2.2
  have h0 := hc.1
  have h7 := hc.2.1
  obtain ⟨n, hn⟩ : ∃ n : Nat, c.chan = n := ⟨c.chan.toNat, by omega⟩
  have ho := open_seal key.data.toList Gs.zero c ⟨(sealL key.data.toList c).toArray⟩ hc rfl
  rw [if_neg hcn] at ho
  rw [hn] at ho ⊢
  refine (aOpen_in g key Gs.zero n ⟨(sealL key.data.toList c).toArray⟩ w hk hB (by omega) (by rw [size_list]; show 17 ≤ (sealL _ c).length; omega) (by rw [size_list]; show (sealL _ c).length ≤ _; omega)).mono ?_
  rintro e w' ⟨rfl, hK, -⟩
  rw [ho]
  exact ⟨_, rfl, hK⟩
def catB (c : UInt8) (e : ByteArray) : ByteArray := ⟨#[c]⟩ ++ e
theorem catB_list (c : UInt8) (e : ByteArray) : (catB c e).data.toList = c :: e.data.toList := by simp [catB]
theorem back_parts (key : List UInt8) (b : Cm) (d : ByteArray) (hd : d.data.toList = sealL key b) :
    d.size = 17 + b.args.size ∧ ∃ m : Nat, m = 9 + b.args.size ∧ (d.extract 0 m).data.toList = bodyL b ∧ ∀ j, j < 8 → (d.data.toList.getD (m + j) 0).toNat = (keyedSum key (chB b.chan :: bodyL b)).toNat / 256 ^ (7 - j) % 256 := by
  have hs : d.size = 17 + b.args.size := by rw [size_list, hd, sealL, List.length_append, bodyL_length, sumL_length]; omega
  refine ⟨hs, 9 + b.args.size, rfl, ?_, fun j hj => ?_⟩
  · rw [extract_list, hd, sealL, List.drop_zero, Nat.sub_zero]
    exact List.take_left' (bodyL_length b)
  · rw [hd, sealL, List.getD_eq_getElem?_getD, List.getElem?_append_right (by rw [bodyL_length]; omega), bodyL_length, Nat.add_sub_cancel_left]
    have : (sumL key b.chan (bodyL b))[j]? = some (beByte (keyedSum key (chB b.chan :: bodyL b)) j) := by
      unfold sumL be8
      match j, hj with
      | 0, _ => rfl
      | 1, _ => rfl
      | 2, _ => rfl
      | 3, _ => rfl
      | 4, _ => rfl
      | 5, _ => rfl
      | 6, _ => rfl
      | 7, _ => rfl
    rw [this]
    show (beByte _ j).toNat = _
    rw [beByte_nat, Nat.pow_mul]
set_option maxHeartbeats 8000000 in
set_option maxRecDepth 100000 in
theorem AuthBack_any (key : ByteArray) (c : Cm) (t : Tr) (w : World) (hk : key.size ≤ 9223372036854775807) (hc : c.args.size ≤ 9223372036854775807) (hd : t.data.size ≤ 9223372036854775807) :
    Calls Try.prog 6 #[.string key, c.val, t.val] w fun e w' => e = .returned (.bool true) ∧ Below w.heap.size w w' := by
  have HSH := Lib.hid (shown17_any)
  obtain ⟨tc, d, ta⟩ := t
  simp only at hd
  have HX := Lib.hid ((Blk.new w c.cells 24).alloc (Obj.cells #[.int .i64 tc, .string d, .bool ta] 51))
  have HT := Lib.hid (Blk.new (w.alloc (Obj.cells c.cells.toArray 24)) [.int .i64 tc, .string d, .bool ta] 51)
  have HL := Lib.hid (((Below.refl w.heap.size w).alloc (Nat.le_refl _) (Obj.cells c.cells.toArray 24)).alloc (by simp) (Obj.cells #[.int .i64 tc, .string d, .bool ta] 51))
  simp only [World.size_alloc] at HT
  have HB2 := Lib.hid (fun W => aSeal_bad key c W)
  have HB3 := Lib.hid (fun W => aSeal_ok key c W)
  have HB4 := Lib.hid (fun g W => aOpen_seal g key c W)
  have HWF := Lib.hid (Iff.rfl : c.ok ↔ c.ok)
  obtain ⟨P, hP⟩ : ∃ P : Prop, P = c.ok := ⟨_, rfl⟩
  have HP := Lib.hid hP
  rw [← hP] at HB2 HB3 HB4
  clear hP HWF
  obtain ⟨sl, hsl⟩ : ∃ sl : ByteArray, sl = ⟨(sealL key.data.toList c).toArray⟩ := ⟨_, rfl⟩
  rw [← hsl] at HB4
  rw [show strOf (sealL key.data.toList c) = .string sl by rw [hsl]; rfl] at HB3
  clear hsl
  obtain ⟨ch, n, op, args⟩ := c
  simp only [Cm.val, Cm.cells, Tr.val] at *
  clear HP
  go_enter Try.func6, Try.ntmps6
  go_wp2_with fail
  refine (HSH.out _).mono ?_
  rintro e w1 ⟨rfl, hL⟩
  replace HL := Lib.hid (HL.out.trans (hL.mono HL.out.size))
  replace HX := Lib.hid (HX.out.below hL HX.out.lt)
  replace HT := Lib.hid (HT.out.below hL HT.out.lt)
  clear hL
  have x0 := HX.out.cell 0
  have x1 := HX.out.cell 1
  have x2 := HX.out.cell 2
  have x3 := HX.out.cell 3
  simp only [List.getElem?_cons_zero, List.getElem?_cons_succ] at x0 x1 x2 x3
  have y0 := HT.out.cell 0
  have y1 := HT.out.cell 1
  have y2 := HT.out.cell 2
  simp only [List.getElem?_cons_zero, List.getElem?_cons_succ] at y0 y1 y2
  go_upto_region 3 with fail
  go_quiet (fail)
  go_upto_region 4 with fail
  refine gen_world (fun v => Below w.heap.size w v ∧ Blk v w.heap.size [.int .i64 ch, .int .u64 (w64 n), .int .i64 op, .string args] 24) ⟨HL.out.trans ((below_quiet _ _).1.mono HL.out.size), HX.out.below (below_quiet _ _).1 HX.out.lt⟩ ?_
  clear HL HX HT x0 x1 x2 x3 y0 y1 y2
  rintro v ⟨hL, hX⟩
  have HL := Lib.hid hL; have HX := Lib.hid hX; clear hL hX
  have x0 := HX.out.cell 0
  have x1 := HX.out.cell 1
  have x2 := HX.out.cell 2
  have x3 := HX.out.cell 3
  simp only [List.getElem?_cons_zero, List.getElem?_cons_succ] at x0 x1 x2 x3
  by_cases hz : (2000 : Int) < wrap64 (wrap64 ((key.size : Int) + (args.size : Int)) + (d.size : Int))
  · go_wp2_with fail
    go_ret
    exact ⟨rfl, HL.out⟩
  by_cases h16 : key.size = 16
  case neg =>
    have HK1 := Lib.hid (fun t W => aNew_key key t W h16)
    have hkb := key_bool' key h16
    have HSB := Lib.hid (fun W => HB2.out W (fun h => h16 h.1))
    clear h16 HB2 HB3 HB4
    go_wp2_with fail
    refine (HSB.out _).mono ?_
    rintro e w2 ⟨rfl, hL⟩
    replace HL := Lib.hid (HL.out.trans (hL.mono HL.out.size))
    clear hL x0 x1 x2 x3
    go_wp2_with fail
    refine (HK1.out _ _).mono ?_
    rintro e w3 ⟨rfl, hL⟩
    replace HL := Lib.hid (HL.out.trans (hL.mono HL.out.size))
    clear hL
    go_wp2_with fail
    refine (HK1.out _ _).mono ?_
    rintro e w4 ⟨rfl, hL⟩
    replace HL := Lib.hid (HL.out.trans (hL.mono HL.out.size))
    clear hL
    go_wp2_with fail
    go_ret
    exact ⟨rfl, HL.out⟩
  case pos =>
    have HNW := Lib.hid (fun W => aNew_empty key W h16)
    have HOP := Lib.hid (fun g W h => aOpen_all g key Gs.zero tc d W h16 h)
    have HSO := Lib.hid (fun b W h => aSeal_ok key b W h16 h)
    have HRS := Lib.hid (fun b W h => rSum_any key b W h16 h)
    have hkb := key_bool key h16
    replace HB3 := Lib.hid (fun W => HB3.out W h16)
    replace HB4 := Lib.hid (fun g W => HB4.out g W h16)
    have HK16 := Lib.hid h16
    by_cases hok : P
    case' pos =>
      have HSB := Lib.hid (fun W => HB3.out W hok)
      have HOS := Lib.hid (fun g W => HB4.out g W hok)
      clear h16 HB2 HB3 HB4 hok
      go_wp2_with fail
      refine (HSB.out _).mono ?_
      rintro e w2 ⟨rfl, hL⟩
      replace HL := Lib.hid (HL.out.trans (hL.mono HL.out.size))
      replace HX := Lib.hid (HX.out.below hL HX.out.lt)
      clear hL x0 x1 x2 x3
      go_wp2_with fail
      refine (HNW.out _).mono ?_
      rintro e w3 ⟨g, rfl, hgl, hG, hL⟩
      replace HL := Lib.hid (HL.out.trans (hL.mono HL.out.size))
      have hgx := HX.out.lt
      replace HX := Lib.hid (HX.out.below hL HX.out.lt)
      have HG := Lib.hid hG
      have hgw : w.heap.size < g := by omega
      clear hL hG hgl hgx
      go_wp2_with fail
      refine (HNW.out _).mono ?_
      rintro e w4 ⟨h, rfl, hgl, hG, hL⟩
      replace HL := Lib.hid (HL.out.trans (hL.mono HL.out.size))
      have hgx := HG.out.lt
      replace HX := Lib.hid (HX.out.below hL HX.out.lt)
      replace HG := Lib.hid (HG.out.below hL HG.out.lt)
      have HH := Lib.hid hG
      have hgh : g < h := by omega
      clear hL hG hgl hgx
      have x0 := HX.out.cell 0
      have x1 := HX.out.cell 1
      have x2 := HX.out.cell 2
      have x3 := HX.out.cell 3
      simp only [List.getElem?_cons_zero, List.getElem?_cons_succ] at x0 x1 x2 x3
      go_wp2_with fail
      refine (HOS.out g _ HG.out).mono ?_
      rintro e w5 ⟨sv, rfl, hK⟩
      replace HL := Lib.hid (HL.out.trans (hK.toBelowAt HL.out.size (by simp; omega)))
      replace HX := Lib.hid (HX.out.keep hK (by simp; omega))
      replace HH := Lib.hid (Blk.keep HH.out hK (by simp; omega))
      clear hK x0 x1 x2 x3
      obtain ⟨p, hp⟩ : ∃ p, p = w5.heap.size := ⟨_, rfl⟩
      have HQ := Blk.new_at w5 [.int .i64 ch, .int .u64 (w64 n), .int .i64 op, .string args] 24 p hp
      go_upto_region 13 with fail
      rw [← hp]
      refine gen_world (fun v => Below w.heap.size w v ∧ Blk v w.heap.size [.int .i64 ch, .int .u64 (w64 n), .int .i64 op, .string args] 24 ∧ Blk v p [.int .i64 ch, .int .u64 (w64 n), .int .i64 op, .string args] 24 ∧ Gd v h key Gs.zero) ⟨HL.out.alloc HL.out.size _, HX.out.alloc _, HQ, Blk.alloc HH.out _⟩ ?_
      clear HL HX HG HH HQ hp
      rintro v2 ⟨hL, hX, hQ, hH⟩
      have HL := Lib.hid hL; have HX := Lib.hid hX; have HQ := Lib.hid hQ; have HH := Lib.hid hH
      clear hL hX hQ hH
      have x0 := HX.out.cell 0
      have x1 := HX.out.cell 1
      have x2 := HX.out.cell 2
      have x3 := HX.out.cell 3
      simp only [List.getElem?_cons_zero, List.getElem?_cons_succ] at x0 x1 x2 x3
      have y0 := HQ.out.cell 0
      have y1 := HQ.out.cell 1
      have y2 := HQ.out.cell 2
      have y3 := HQ.out.cell 3
      simp only [List.getElem?_cons_zero, List.getElem?_cons_succ] at y0 y1 y2 y3
      go_upto_region 15 with fail
      refine gen_world (fun v => Below w.heap.size w v ∧ Gd v h key Gs.zero) ⟨HL.out, HH.out⟩ ?_
      clear HL HX HQ HH x0 x1 x2 x3 y0 y1 y2 y3
    case' neg =>
      have HSB := Lib.hid (fun W => HB2.out W (fun h => hok h.2))
      clear h16 HB2 HB3 HB4 hok
      go_wp2_with fail
      refine (HSB.out _).mono ?_
      rintro e w2 ⟨rfl, hL⟩
      replace HL := Lib.hid (HL.out.trans (hL.mono HL.out.size))
      replace HX := Lib.hid (HX.out.below hL HX.out.lt)
      clear hL x0 x1 x2 x3
      go_wp2_with fail
      refine (HNW.out _).mono ?_
      rintro e w3 ⟨g, rfl, hgl, hG, hL⟩
      replace HL := Lib.hid (HL.out.trans (hL.mono HL.out.size))
      have hgx := HX.out.lt
      replace HX := Lib.hid (HX.out.below hL HX.out.lt)
      have HG := Lib.hid hG
      have hgw : w.heap.size < g := by omega
      clear hL hG hgl hgx
      go_wp2_with fail
      refine (HNW.out _).mono ?_
      rintro e w4 ⟨h, rfl, hgl, hG, hL⟩
      replace HL := Lib.hid (HL.out.trans (hL.mono HL.out.size))
      have hgx := HG.out.lt
      have HH := Lib.hid hG
      have hgh : g < h := by omega
      clear hL hG hgl hgx
      go_upto_region 15 with fail
      refine gen_world (fun v => Below w.heap.size w v ∧ Gd v h key Gs.zero) ⟨HL.out, HH.out⟩ ?_
      clear HL HX HH
    all_goals
      rintro v3 ⟨hL, hH⟩
      have HL := Lib.hid hL; have HH := Lib.hid hH
      clear hL hH
      have hhw : w.heap.size < h := by omega
      go_wp2_with fail
      refine (HOP.out h _ HH.out).mono ?_
      rintro e w6 ⟨b, sv6, er, s6, hlaw, rfl, hK, -⟩
      replace HL := Lib.hid (HL.out.trans (hK.toBelowAt HL.out.size (by simp; omega)))
      clear hK
      rcases hlaw with ⟨he, rfl, rfl, rfl⟩ | ⟨rfl, hbok, hbc, hdl, hlt, rfl, rfl⟩
      · have d5 : (er != 0) = true := by simpa using he
        simp only [Cm.val, Cm.zero]
        go_wp2_with fail
        go_ret
        exact ⟨rfl, HL.out.alloc HL.out.size _⟩
      · obtain ⟨bch, bn, bop, bar⟩ := b
        obtain rfl : tc = bch := hbc.symm
        have hb0 : 0 ≤ tc := hbok.1
        have hb7 : tc ≤ 7 := hbok.2.1
        have hb6 : bar.size ≤ 180 := hbok.2.2.2.2.2
        obtain ⟨hds, m, hm, hdx, hdj⟩ := back_parts key.data.toList ⟨tc, bn, bop, bar⟩ d hdl
        have hseal := fun W => HSO.out ⟨tc, bn, bop, bar⟩ W hbok
        rw [show strOf (sealL key.data.toList ⟨tc, bn, bop, bar⟩) = .string d by rw [← hdl]; rfl] at hseal
        simp only [Cm.val] at hseal hds hm hdx hdj ⊢
        obtain ⟨q, hq⟩ : ∃ q : ByteArray, q = catB (chB tc) (d.extract 0 m) := ⟨_, rfl⟩
        have hql : q.data.toList = chB tc :: bodyL ⟨tc, bn, bop, bar⟩ := by rw [hq, ← hdx]; exact catB_list _ _
        have hqs : q.size ≤ 1000 := by rw [size_list, hql, List.length_cons, bodyL_length]; simp only; omega
        have hsum := fun W => HRS.out q W (by omega)
        rw [hql] at hsum
        obtain ⟨N, hN⟩ : ∃ N, N = keyedSum key.data.toList (chB tc :: bodyL ⟨tc, bn, bop, bar⟩) := ⟨_, rfl⟩
        rw [← hN] at hsum hdj
        have HSEAL := Lib.hid hseal
        have HSUM := Lib.hid (fun W => (hsum W).mono (fun e w' h => (⟨_, h.1, rfl, h.2⟩ : ∃ v, e = .returned v ∧ (v = .tuple #[.int .u64 (w64 N), .int .i64 0] ∧ Below W.heap.size W w')))); rw [hq] at HSUM; have HDJ := Lib.hid hdj
        have hmd : m + 8 = d.size := by omega
        have HMD := Lib.hid hmd
        have hm9 : 9 ≤ m := by omega
        have hmle : m ≤ d.size := by omega
        have hmi : ((d.size : Int) - 8) = (m : Int) := by omega
        have HMI := Lib.hid hmi
        have hds2 : d.size ≤ 1000 := by omega
        have HCV := Lib.hid (fun W => bytes1_string W tc hb0 (by omega))
        clear hseal hsum hq hql hqs hN hdj hdx hm hds hdl hlt hbok hbc hmd hmi HSO HRS HOP HNW HSB hkb HSH HK16 HH hhw
        obtain ⟨p, hp⟩ : ∃ p, p = w6.heap.size := ⟨_, rfl⟩
        have hB := Blk.new_at w6 [.int .i64 tc, .int .u64 (w64 bn), .int .i64 bop, .string bar] 24 p hp
        go_upto_region 18 with fail
        rw [← hp]
        refine gen_world (fun v => Below w.heap.size w v ∧ Blk v p [.int .i64 tc, .int .u64 (w64 bn), .int .i64 bop, .string bar] 24) ⟨HL.out.alloc HL.out.size _, hB⟩ ?_
        clear HL hB hp
        rintro v4 ⟨hL, hB⟩
        have HL := Lib.hid hL; have HB := Lib.hid hB; clear hL hB
        have y0 := HB.out.cell 0
        have y1 := HB.out.cell 1
        have y2 := HB.out.cell 2
        have y3 := HB.out.cell 3
        simp only [List.getElem?_cons_zero, List.getElem?_cons_succ] at y0 y1 y2 y3
        go_wp2_with fail
        refine (HSEAL.out _).mono ?_
        rintro e w7 ⟨rfl, hL⟩
        replace HL := Lib.hid (HL.out.trans (hL.mono HL.out.size))
        replace HB := Lib.hid (HB.out.below hL HB.out.lt)
        clear hL y0 y1 y2 y3
        have y0 := HB.out.cell 0
        have y1 := HB.out.cell 1
        have y2 := HB.out.cell 2
        have y3 := HB.out.cell 3
        simp only [List.getElem?_cons_zero, List.getElem?_cons_succ] at y0 y1 y2 y3
        have e0 : (d.toList != d.toList) = false := by simp
        have e1 : (tc != tc) = false := by simp
        go_upto_region 22 with fail
        rw [HMI.out]
        go_upto_region 24 with fail
        clear e0 e1 y0 y1 y2 y3
        refine gen_world (fun v => Below w.heap.size w v) HL.out ?_
        clear HL HB HSEAL
        intro v5 hL
        have HL := Lib.hid hL; clear hL
        go_cut [24, 25] (fun a b wx => a = .int .u64 (w64 N) ∧ b = .int .i64 0 ∧ Below w.heap.size w wx)
        case first =>
          have hcat : ¬ (9223372036854775807 < 1 + m) := by omega
          have hwt : IntKind.u8.wrap tc = tc := by rw [IntKind.wrap_u8]; omega
          have hcv : (convert 54 9 (.slice (some ⟨v5.heap.size, 0, none⟩) 1 1)).run Try.prog (v5.alloc (.cells #[.int .u8 tc] 5)).drew = .ok (.string ⟨#[chB tc]⟩) (v5.alloc (.cells #[.int .u8 tc] 5)).drew := HCV.out v5.drew
          go_region_law (refine step_call rfl 18 _ _ rfl #[.string key, .string (catB (chB tc) (d.extract 0 m))] (by kernel_rfl) _ (HSUM.out _) ?_; rintro v6 w8 ⟨rfl, hL8⟩)
          all_goals
            go_wp2_with fail
            go_meet
            exact ⟨rfl, rfl, ((HL.out.alloc HL.out.size _).drew).trans (hL8.mono (by have := HL.out.size; show _ ≤ (v5.alloc _).heap.size; rw [World.size_alloc]; omega))⟩
        case rest =>
          obtain ⟨rfl, rfl, hL⟩ := hcut
          have HL := Lib.hid hL; clear hL
          have HNN := Lib.hid (Nat.lt_of_lt_of_eq N.isLt (by decide : 2 ^ 64 = 18446744073709551616))
          go_wp2_with fail
          go_loop [24, 26] (fun s i => ∃ k : Nat, k ≤ 8 ∧ i = .int .i64 ((k : Int) - 1) ∧ s = .int .u64 ((N.toNat / 256 ^ (8 - k) : Nat) : Int)) (fun _ i => (intOf i + 1).toNat)
          case atStart => exact ⟨8, by omega, rfl, by simp [w64]⟩
          case round =>
            obtain ⟨k, hk, rfl, rfl⟩ := hrel
            by_cases hlt : 0 < k
            · obtain ⟨j, rfl⟩ : ∃ j, k = j + 1 := ⟨k - 1, by omega⟩
              have hji : (((j + 1 : Nat) : Int) - 1) = j := by omega
              rw [hji]
              have hdj := HDJ.out j (by omega)
              rw [show 8 - (j + 1) = 7 - j by omega]
              obtain ⟨x, hx⟩ : ∃ x, x = N.toNat / 256 ^ (7 - j) := ⟨_, rfl⟩
              rw [← hx] at hdj ⊢
              have hx2 : N.toNat / 256 ^ (8 - j) = x / 256 := by rw [hx, Nat.div_div_eq_div_mul, ← Nat.pow_succ, show 8 - j = 7 - j + 1 by omega]
              have hxm : x ≤ 18446744073709551615 := by have := Nat.div_le_self N.toNat (256 ^ (7 - j)); have := HNN.out; omega
              clear hji hx
              have HX2 := Lib.hid hx2; clear hx2
              have hmj : m + j < d.size := by have := HMD.out; omega
              have hbd : 0 ≤ (m : Int) + (j : Int) ∧ (m : Int) + (j : Int) < (d.size : Int) := by omega
              have hg : d[m + j] = d.data.toList.getD (m + j) 0 := by
                rw [List.getD_eq_getElem?_getD, List.getElem?_eq_getElem (by simpa using hmj)]
                show d.data[m + j] = _
                simp
              have hnb : (((d[m + j]'hmj).toNat : Int) != (x : Int) % 256) = false := by
                rw [hg, hdj]; simp
              clear hg hdj
              go_wp2_with fail
              go_round
              case rel => exact ⟨j, by omega, rfl, by (first | (rw [HX2.out]; done) | (rw [HX2.out]; rfl))⟩
              case measure => (simp [intOf]; try omega)
            · obtain rfl : k = 0 := by omega
              go_wp2_with fail
              go_ret
              exact ⟨rfl, HL.out⟩
end Go.Proofs.Ytincoocagfegfaa
