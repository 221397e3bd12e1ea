/- What is proved here: the walk of Get of units, from a sum that fits on. -/
import Derived.Test.YtkpgenmlpkfokaaN24
set_option linter.unusedVariables false
set_option linter.unusedSimpArgs false
namespace Go.Proofs.Ytkpgenmlpkfokaa
open Go.RowKit
attribute [local go_sem] run_bytes bytes_size
theorem step_call_dyn_or {ops : Array Oper} {o : Oper} {a : Act} {w : World} {K : Act → World → Prop} {Q : Exit → Act → World → Prop} {E : Prop}
    (hg : o.guard = none) (c : Operand) (x y : Operand) (ts : Array TypeId) (hop : o.op = Op.call { callee := Callee.value c, args := #[x, y], argTypes := ts }) (f : FuncId) (a1 a2 : Value) (hc0 : a.eval c = .func (.func f) #[] #[]) (hx : a.eval x = a1) (hy : a.eval y = a2)
    (hcf : (callFunc f #[a1, a2]).run Try.prog w = .ok (.enter f #[a1, a2]) w) (R : Value → World → Prop) (ch : List PanicEntry) (S : World → Prop)
    (hc : Calls Try.prog f #[a1, a2] w fun e w' => (∃ v, e = .returned v ∧ R v w') ∨ (e = .panicked ch ∧ S w')) (hP : ∀ w', S w' → Q (.panic ch) a w')
    (hK : ∀ v w', R v w' → K (a.put o.dst v) w') :
    if Region.wanted o (yielded ops a.tmps) = true then Oper.wp Try.prog o a w K Q else E := by
  have hw : Region.wanted o (yielded ops a.tmps) = true := by simp [Region.wanted, hg]
  have hrun : (execOp a.eval o).run Try.prog w = .ok (.enter f #[a1, a2]) w := by
    unfold execOp
    simp [hop, resolve, invoke, Deferred.ofValue, hc0, hx, hy, hcf]
  rw [if_pos hw]
  unfold Oper.wp
  rw [hrun, Oper.upon_enter]
  refine hc.mono fun e w'' hh => ?_
  rcases hh with ⟨v, rfl, hR⟩ | ⟨rfl, hS⟩
  · exact hK _ _ hR
  · exact hP _ hS
theorem read_new (k : Nat) (h1 : 1 ≤ k) (h6 : k ≤ 6) (g h : Nat) (c : ByteArray) (u : Un) (w : World) (hB : Blk w g [.string c] 66) (hU : Blk w h (u.cells (.slice none 0 0)) 25) (hgh : g ≠ h) (hc : c.size ≤ 1000) (hg : u.gaps = []) :
    Calls Try.prog (fGet k) #[.pointer (some ⟨g, 0, none⟩), .pointer (some ⟨h, 0, none⟩)] w fun e w' =>
      (∃ v, e = .returned v ∧ (v = .tuple #[] ∧ ∃ u' r gv, readU k u c = some (u', r) ∧ Keep [g, h] w w' ∧ Blk w' g [.string r] 66 ∧ GRow w' w.heap.size gv u'.gaps ∧ Blk w' h (u'.cells gv) 25)) ∨
      (e = .panicked shortP ∧ (readU k u c = none ∧ Keep [g, h] w w' ∧ ∃ cs : List Value, cs.length = 11 ∧ Blk w' h cs 25)) := by
  refine (read_any k h1 h6 g h c u w hB hU hgh hc hg).mono fun e w' hh => ?_
  rcases hh with ⟨u', r, gv, q1, q2, q3, q4, q5, q6⟩ | ⟨q1, q2, q3, q4⟩
  · exact .inl ⟨_, q2, rfl, u', r, gv, q1, q3, q4, q5, q6⟩
  · exact .inr ⟨q2, q1, q3, q4⟩
theorem readU_small (k : Nat) (u : Un) (c : ByteArray) (u' : Un) (r : ByteArray) (hr : readU k u c = some (u', r)) (hc : c.size ≤ 1000) (h1 : u.name.size ≤ 1000) (h2 : u.data.size ≤ 1000) (h3 : u.gaps.length ≤ 1000) : u'.name.size ≤ 1000 ∧ u'.data.size ≤ 1000 ∧ u'.gaps.length ≤ 1000 := by
  unfold readU at hr
  split at hr
  all_goals
    split at hr
    · simp only [Option.some.injEq, Prod.mk.injEq] at hr
      obtain ⟨rfl, -⟩ := hr
      simp only [ext_size, gapsOf_length]
      omega
    · cases hr
theorem grow_ne {w : World} {base h : Nat} {v : Value} {l : List Gp} {cs : List Value} {t : TypeId} (hR : GRow w base v l) (hB : Blk w h cs t) (ht : ¬ t = 47) : ∀ g, v.ownBlock = some g → g ≠ h := by
  intro k hk e
  obtain ⟨hl, ⟨rfl, h0⟩ | ⟨g, cap, cur, rfl, hb, hg, hc, hm, hs, hx⟩⟩ := hR
  · cases hk
  · obtain rfl : g = k := Option.some.inj hk
    subst e
    unfold Blk at hB
    rw [hg] at hB
    injection hB with hB
    injection hB with _ e2 _
    exact ht e2.symm
theorem ownsRow_mono {w : World} {b b' : Nat} {v : Value} {l : List Gp} (h : GRow w b v l) (hb : b' ≤ b) : GRow w b' v l := by
  obtain ⟨hl, h0 | ⟨g, cap, cur, e1, e2, e3⟩⟩ := h
  · exact ⟨hl, .inl h0⟩
  · exact ⟨hl, .inr ⟨g, cap, cur, e1, by omega, e3⟩⟩
set_option maxHeartbeats 16000000 in
set_option maxRecDepth 100000 in
theorem uGet_main (b : ByteArray) (w : World) (h : 6 ≤ b.size ∧ b.size ≤ 167) (h2 : sumB (b.data.toList.take (b.size - 2)) = b.data.toList) : Calls Try.prog 17 #[.string b] w (GetPost b w) := by
  have H1 := Lib.hid (fun W => uwithin_any (b.size : Int) 6 167 W)
  rw [decide_eq_true (by omega : (6 ≤ (b.size : Int) ∧ (b.size : Int) ≤ 167))] at H1
  obtain ⟨n, hn⟩ : ∃ n, n = b.size - 2 := ⟨_, rfl⟩
  have HMI := Lib.hid (show (b.size : Int) - 2 = (n : Int) by omega)
  have hn1 : n ≤ 165 := by omega
  have hn2 : 4 ≤ n := by omega
  have hnb : n ≤ b.size := by omega
  obtain ⟨s, hs⟩ : ∃ s, s = b.extract 0 n := ⟨_, rfl⟩
  have hsl : s.data.toList = b.data.toList.take n := by rw [hs]; simp
  have hss : s.size = n := by rw [size_list, hsl]; simp; omega
  have HS := Lib.hid hs; have HSL := Lib.hid hsl; have HSS := Lib.hid hss; have HN := Lib.hid hn
  have hsz : s.size ≤ 165 := by omega
  obtain ⟨t, ht⟩ : ∃ t : ByteArray, t = ⟨(sumB s.data.toList).toArray⟩ := ⟨_, rfl⟩
  have HSUM := Lib.hid (fun base v W (hb : base ≤ W.heap.size) (hR : Row W base v s.data.toList) => usummed_any base v s.data.toList W hb (by rw [← size_list]; omega) hR)
  have HT := Lib.hid (show strOf (sumB s.data.toList) = .string t by rw [ht]; rfl)
  have htb : (t.toList != b.toList) = false := by
    rw [bne_eq_false_iff_eq, toList_data, toList_data, ht]
    show sumB s.data.toList = b.data.toList
    rw [hsl, hn]; exact h2
  have htb2 : (t.toList == b.toList) = true := by simpa using htb
  have HTB := Lib.hid htb; have HTB2 := Lib.hid htb2
  obtain ⟨k, hk⟩ : ∃ k, k = numN (b.data.toList.take 1) := ⟨_, rfl⟩
  obtain ⟨nu, hnu⟩ : ∃ nu, nu = numN ((b.data.toList.drop 1).take 2) := ⟨_, rfl⟩
  obtain ⟨c1, hc1⟩ : ∃ c1, c1 = s.extract 1 s.size := ⟨_, rfl⟩
  obtain ⟨c, hcd⟩ : ∃ c, c = c1.extract 2 c1.size := ⟨_, rfl⟩
  have hc1s : c1.size = s.size - 1 := by rw [hc1, ext_size]
  have hc1l : c1.data.toList = s.data.toList.drop 1 := by rw [hc1, ext_list]
  have hcs : c.size = s.size - 3 := by rw [hcd, ext_size, hc1s]; omega
  have hce : c = b.extract 3 (b.size - 2) := by
    apply ByteArray.ext; apply Array.ext'
    rw [hcd, ext_list, hc1l, hsl, hn, List.drop_drop]
    simp only [ByteArray.data_extract, Array.toList_extract, List.extract_eq_take_drop]
    rw [List.drop_take]
  have hGS : getS b = if ¬ (1 ≤ k ∧ k ≤ 6) then (Un.zero, (6 : Int)) else match readU k (Un.mk (k : Int) (nu : Int) ⟨#[]⟩ 0 0 0 ⟨#[]⟩ 0 0 false []) c with
    | none => (Un.zero, 6)
    | some (u, r) => if r.size = 0 ∧ validS u = true then (u, 0) else (Un.zero, 6) := by
    rw [getS, if_neg (by simpa using h), if_neg (by simpa using h2), ← hk, ← hnu, hce]; rfl
  have hk' : numN (s.data.toList.take 1) = k := by rw [hk, hsl, List.take_take, Nat.min_eq_left (by omega)]
  have hnu' : numN (c1.data.toList.take 2) = nu := by
    rw [hnu, hc1l, hsl, List.drop_take, List.take_take, Nat.min_eq_left (by omega)]
  have hs2 : b.extract 0 s.size = s := by rw [hss, hs]
  have HK := Lib.hid hk'; have HNU := Lib.hid hnu'; have HC1 := Lib.hid hc1; have HCD := Lib.hid hcd; have HGS := Lib.hid hGS; have HS2 := Lib.hid hs2
  have hc1z : c1.size ≤ 165 := by omega
  have hc : c.size ≤ 1000 := by omega
  have hs4 : 4 ≤ s.size := by omega
  have hsb : s.size ≤ b.size := by omega
  have hc3 : 3 ≤ c1.size := by omega
  have hk0 : k < 256 := by
    have h9 := numN_lt (b.data.toList.take 1)
    have hl : (b.data.toList.take 1).length = 1 := by rw [List.length_take, ← size_list]; omega
    rw [hl] at h9; rw [hk]; exact h9
  obtain ⟨hb6, hb167⟩ := h
  clear h2 hn hs hsl hss ht htb htb2 hk hnu hc1 hcd hc1s hc1l hcs hce hGS hk' hnu' hs2
  go_enter_defers Try.func17, Try.ntmps17
  go_wp2_with fail
  refine (H1.out _).mono ?_
  rintro e _ ⟨rfl, rfl⟩
  go_upto_region 4 with fail
  rw [HMI.out]
  refine gen_world (fun w' => Blk w' w.heap.size (Un.zero.cells (.slice none 0 0)) 25 ∧ Blk w' (w.heap.size + 1) [.int .i64 0] 29 ∧ Below w.heap.size w w') ⟨(Blk.new w _ _).alloc _, Blk.new_at _ _ _ _ (by simp), ((Below.refl _ _).alloc (Nat.le_refl _) _).alloc (by simp) _⟩ ?_
  rintro v ⟨hU, hE, hL⟩
  have HU := Lib.hid hU; have HE := Lib.hid hE; have HL := Lib.hid hL
  have hbw := bytes_row v s (by omega)
  have hbk := bytes_keep v s
  clear hU hE hL
  go_wp2_with fail
  rw [← HS.out, ← HSS.out]
  refine (HSUM.out v.heap.size _ _ (by rw [bytes_size]; omega) hbw).mono ?_
  rw [HT.out]
  rintro e w1 ⟨rfl, hL1⟩
  have hk2 := hbk.toBelow.trans hL1
  replace HU := Lib.hid (HU.out.below hk2 HU.out.lt)
  replace HE := Lib.hid (HE.out.below hk2 HE.out.lt)
  replace HL := Lib.hid (HL.out.trans (hk2.mono HL.out.size))
  have q1 := HTB.out
  have q2 := HTB2.out
  clear hbw hbk hL1 hk2
  go_upto_region 8 with fail
  simp only [Un.zero, Un.cells] at HU
  try rw [HS2.out]
  obtain ⟨g, hg⟩ : ∃ g, g = w1.heap.size := ⟨_, rfl⟩
  have hgl : w.heap.size + 1 < g := by rw [hg]; exact HE.out.lt
  have HB := Lib.hid (Blk.new_at w1 [.string s] 66 g hg)
  rw [← hg]
  refine gen_world (fun w' => Blk w' w.heap.size [.int .i64 0, .int .i64 0, .string ⟨#[]⟩, .int .i64 0, .int .u32 0, .int .i64 0, .string ⟨#[]⟩, .int .i64 0, .int .i64 0, .bool false, .slice none 0 0] 25 ∧ Blk w' (w.heap.size + 1) [.int .i64 0] 29 ∧ Blk w' g [.string s] 66 ∧ Below w.heap.size w w') ⟨HU.out.alloc _, HE.out.alloc _, HB.out, HL.out.alloc HL.out.size _⟩ ?_
  clear HU HE HL HB hg q1 q2
  rintro v2 ⟨hU, hE, hB, hL⟩
  have HU := Lib.hid hU; have HE := Lib.hid hE; have HB := Lib.hid hB; have HL := Lib.hid hL
  clear hU hE hB hL
  have f0 := HU.out.free 0
  have x0 := HU.out.cell 0
  simp only [List.getElem?_cons_zero, List.getElem?_cons_succ] at x0
  clear f0 x0
  go_wp2_with fail
  refine (rdnumber_ok g s 1 _ HB.out (by omega) (by omega) (by omega)).mono ?_
  rw [HK.out, ← HC1.out]
  rintro e v3 ⟨rfl, hK, hB⟩
  replace HU := Lib.hid (HU.out.keep hK (by simp; omega))
  replace HE := Lib.hid (HE.out.keep hK (by simp; omega))
  replace HL := Lib.hid (HL.out.trans (hK.toBelowAt HL.out.size (by simp; omega)))
  replace HB := Lib.hid hB
  clear hK hB
  have f0 := HU.out.free 0
  have x0 := HU.out.cell 0
  simp only [List.getElem?_cons_zero, List.getElem?_cons_succ] at x0
  go_wp2_with fail
  clear f0 x0
  replace HU := Lib.hid (HU.out.set 0 (.int .i64 (k : Int)))
  replace HE := Lib.hid (HE.out.set_far (p := ⟨w.heap.size, 0, none⟩) (by simp) (.int .i64 (k : Int)))
  replace HL := Lib.hid (HL.out.setCell (p := ⟨w.heap.size, 0, none⟩) (by simp) (.int .i64 (k : Int)))
  replace HB := Lib.hid (HB.out.set_far (p := ⟨w.heap.size, 0, none⟩) (by simp; omega) (.int .i64 (k : Int)))
  refine (rdnumber_ok g c1 2 _ HB.out (by omega) (by omega) (by omega)).mono ?_
  rw [HNU.out, ← HCD.out]
  rintro e v4 ⟨rfl, hK, hB⟩
  replace HU := Lib.hid (HU.out.keep hK (by simp; omega))
  replace HE := Lib.hid (HE.out.keep hK (by simp; omega))
  replace HL := Lib.hid (HL.out.trans (hK.toBelowAt HL.out.size (by simp; omega)))
  replace HB := Lib.hid hB
  clear hK hB
  simp only [List.set_cons_zero, List.set_cons_succ] at HU
  have f1 := HU.out.free 1
  have x1 := HU.out.cell 1
  have x0 := HU.out.cell 0
  simp only [List.getElem?_cons_zero, List.getElem?_cons_succ] at x1 x0
  go_wp2_with fail
  clear f1 x1 x0
  replace HU := Lib.hid (HU.out.set 1 (.int .i64 (nu : Int)))
  replace HE := Lib.hid (HE.out.set_far (p := ⟨w.heap.size, 1, none⟩) (by simp) (.int .i64 (nu : Int)))
  replace HL := Lib.hid (HL.out.setCell (p := ⟨w.heap.size, 1, none⟩) (by simp) (.int .i64 (nu : Int)))
  replace HB := Lib.hid (HB.out.set_far (p := ⟨w.heap.size, 1, none⟩) (by simp; omega) (.int .i64 (nu : Int)))
  simp only [List.set_cons_zero, List.set_cons_succ] at HU
  by_cases hr : 1 ≤ k ∧ k ≤ 6
  case neg =>
    have HG := Lib.hid (show getS b = (Un.zero, 6) by rw [HGS.out, if_pos hr])
    have HW := Lib.hid (fun W => uwithin_any (k : Int) 1 6 W)
    rw [decide_eq_false (by omega : ¬ (1 ≤ (k : Int) ∧ (k : Int) ≤ 6))] at HW
    refine (HW.out _).mono ?_
    rintro e _ ⟨rfl, rfl⟩
    go_wp2_with (refine store_blk rfl _ _ _ rfl w.heap.size 25 _ [.int .i64 0, .int .i64 0, .string ⟨#[]⟩, .int .i64 0, .int .u32 0, .int .i64 0, .string ⟨#[]⟩, .int .i64 0, .int .i64 0, .bool false, .slice none 0 0] rfl rfl HU.out rfl (by kernel_rfl) (by kernel_rfl) ?_)
    intro w9 hU9 hK9
    have HU9 := Lib.hid hU9
    have HE9 := Lib.hid (HE.out.keep hK9 (by simp))
    have HL9 := Lib.hid (HL.out.trans (hK9.toBelowAt HL.out.size (by simp)))
    clear hU9 hK9
    have e0 := HE9.out.cell 0
    simp only [List.getElem?_cons_zero, List.getElem?_cons_succ] at e0
    have z0 := HE9.out.free 0
    go_wp2_with fail
    exact door_ret rfl rfl rfl (HU9.out.set_far (by simp) _) (HE9.out.set 0 _) (getPost_err HG.out (HL9.out.setCell (by simp) _))
  obtain ⟨hk1, hk6⟩ := hr
  have HGR := Lib.hid (show getS b = match readU k (Un.mk (k : Int) (nu : Int) ⟨#[]⟩ 0 0 0 ⟨#[]⟩ 0 0 false []) c with
    | none => (Un.zero, (6 : Int))
    | some (u, r) => if r.size = 0 ∧ validS u = true then (u, 0) else (Un.zero, 6) by rw [HGS.out, if_neg (by simpa using And.intro hk1 hk6)])
  have HGN := Lib.hid (fun hn : readU k (Un.mk (k : Int) (nu : Int) ⟨#[]⟩ 0 0 0 ⟨#[]⟩ 0 0 false []) c = none => show getS b = (Un.zero, 6) by rw [HGR.out, hn])
  have HW := Lib.hid (fun W => uwithin_any (k : Int) 1 6 W)
  rw [decide_eq_true (by omega : (1 ≤ (k : Int) ∧ (k : Int) ≤ 6))] at HW
  have HT := Lib.hid (fun W => tab_at2 k hk1 hk6 W)
  have HcG := Lib.hid (fun args W => call_fGet k hk1 hk6 args W)
  have hgU : g ≠ w.heap.size := by omega
  refine (HW.out _).mono ?_
  rintro e _ ⟨rfl, rfl⟩
  go_upto_region 12 with fail
  refine gen_world (fun w' => Blk w' w.heap.size [.int .i64 (k : Int), .int .i64 (nu : Int), .string ⟨#[]⟩, .int .i64 0, .int .u32 0, .int .i64 0, .string ⟨#[]⟩, .int .i64 0, .int .i64 0, .bool false, .slice none 0 0] 25 ∧ Blk w' (w.heap.size + 1) [.int .i64 0] 29 ∧ Blk w' g [.string c] 66 ∧ Below w.heap.size w w') ⟨HU.out, HE.out, HB.out, HL.out⟩ ?_
  clear HU HE HL HB
  rintro wv ⟨hU, hE, hB, hL⟩
  have HU := Lib.hid hU; have HE := Lib.hid hE; have HB := Lib.hid hB; have HL := Lib.hid hL
  clear hU hE hB hL
  have htk := fun W => HT.out W
  have hfl := fun W => field3_run (fOnly k) (fValid k) (fPut k) (fGet k) W
  go_cut [2] from 39 to 45 (fun p wx => p = .pointer (some ⟨w.heap.size, 0, none⟩) ∧ ∃ u1 r1 gv, Hid (readU k (Un.mk (k : Int) (nu : Int) ⟨#[]⟩ 0 0 0 ⟨#[]⟩ 0 0 false []) c = some (u1, r1)) ∧ Blk wx g [.string r1] 66 ∧ GRow wx w.heap.size gv u1.gaps ∧ Blk wx w.heap.size (u1.cells gv) 25 ∧ Blk wx (w.heap.size + 1) [.int .i64 0] 29 ∧ Below w.heap.size w wx)
  case first =>
    have x0 := HU.out.cell 0
    simp only [List.getElem?_cons_zero, List.getElem?_cons_succ] at x0
    first | (go_region_law (first | (refine step_call rfl 26 #[] _ rfl #[] (by kernel_rfl) _ (ukinds_new _) ?_; rintro v5 w5 ⟨rfl, hL5⟩; have hU5 : Blk w5 w.heap.size [.int .i64 (k : Int), .int .i64 (nu : Int), .string ⟨#[]⟩, .int .i64 0, .int .u32 0, .int .i64 0, .string ⟨#[]⟩, .int .i64 0, .int .i64 0, .bool false, .slice none 0 0] 25 := HU.out.drew.below hL5 HU.out.drew.lt; have hE5 := HE.out.drew.below hL5 HE.out.drew.lt; have hB5 := HB.out.drew.below hL5 HB.out.drew.lt; have y0 := hU5.cell 0; simp only [List.getElem?_cons_zero, List.getElem?_cons_succ] at y0; have hW5 : Below wv.heap.size wv w5 := (below_quiet wv 1).1.trans hL5) | (refine step_call_dyn_or rfl (.tmp 43) (.tmp 44) (.tmp 2) _ rfl (fGet k) (.pointer (some ⟨g, 0, none⟩)) (.pointer (some ⟨w.heap.size, 0, none⟩)) rfl rfl rfl (HcG.out _ _) _ shortP _ (read_new k hk1 hk6 g w.heap.size c (Un.mk (k : Int) (nu : Int) ⟨#[]⟩ 0 0 0 ⟨#[]⟩ 0 0 false []) w5 hB5 hU5 hgU hc rfl) (fun W hS => by obtain ⟨hS1, hS2, cs, hS3, hS4⟩ := hS; exact door_panic rfl rfl hS3 hS4 (hE5.keep hS2 (by simp; omega)) (by omega) (fun W2 hK2 => getPost_err (HGN.out hS1) (((HL.out.trans (hW5.mono HL.out.size)).trans (hS2.toBelowAt (by have := hW5.size; have := HL.out.size; omega) (by simp; omega))).trans (hK2.toBelowAt (by have := hW5.size; have := HL.out.size; have := hS2.size; omega) (by simp))))) ?_; rintro v6 w6 ⟨rfl, u1, r1, gv, hr1, hK6, hB6, hR6, hU6⟩))) | fail
    all_goals
      go_wp2_with fail
      go_meet
      have hlw := HL.out.size
      have hlv := hW5.size
      exact ⟨by with_reducible rfl, u1, r1, gv, Lib.hid hr1, hB6, ownsRow_mono hR6 (by omega), hU6, hE5.keep hK6 (by simp; omega), (HL.out.trans (hW5.mono HL.out.size)).trans (hK6.toBelowAt (by omega) (by simp; omega))⟩
  case rest =>
    obtain ⟨rfl, u1, r1, gv, hr1, hB, hR, hU, hE, hL⟩ := hcut
    have HB2 := Lib.hid hB; have HR2 := Lib.hid hR; have HU2 := Lib.hid hU; have HE2 := Lib.hid hE; have HL2 := Lib.hid hL
    clear hB hR hU hE hL HB HU HE HL HT HcG htk hfl
    obtain ⟨z1, z2, z3⟩ := readU_small _ _ _ _ _ hr1.out hc (Nat.zero_le _) (Nat.zero_le _) (Nat.zero_le _)
    obtain ⟨ga, gc, rfl⟩ := HR2.out.form
    have HGP := Lib.hid (HR2.out.at)
    have r0 := HB2.out.cell 0
    simp only [List.getElem?_cons_zero] at r0
    by_cases hrz : r1.size = 0
    case neg =>
      have HG := Lib.hid (show getS b = (Un.zero, 6) by rw [HGR.out, hr1.out]; simp [hrz])
      have he := empty_no r1 (by omega)
      clear hrz
      go_wp2_with (refine store_blk rfl _ _ _ rfl w.heap.size 25 _ [.int .i64 0, .int .i64 0, .string ⟨#[]⟩, .int .i64 0, .int .u32 0, .int .i64 0, .string ⟨#[]⟩, .int .i64 0, .int .i64 0, .bool false, .slice none 0 0] rfl rfl HU2.out rfl (by kernel_rfl) (by kernel_rfl) ?_)
      intro w9 hU9 hK9
      have HU9 := Lib.hid hU9
      have HE9 := Lib.hid (HE2.out.keep hK9 (by simp))
      have HL9 := Lib.hid (HL2.out.trans (hK9.toBelowAt HL2.out.size (by simp)))
      clear hU9 hK9
      have e0 := HE9.out.cell 0
      simp only [List.getElem?_cons_zero, List.getElem?_cons_succ] at e0
      have z0 := HE9.out.free 0
      go_wp2_with fail
      exact door_ret rfl rfl rfl (HU9.out.set_far (by simp) _) (HE9.out.set 0 _) (getPost_err HG.out (HL9.out.setCell (by simp) _))
    have HRZ := Lib.hid hrz
    have hre := empty_yes r1 hrz
    subst hre
    clear hrz
    have HV := Lib.hid (fun W (h : GapsAt W (.slice ga u1.gaps.length gc) u1.gaps) => uValid_any u1 (.slice ga u1.gaps.length gc) W ⟨by omega, by omega, by omega⟩ h)
    obtain ⟨vr, hvr⟩ : ∃ vr : Bool, vr = validS u1 := ⟨_, rfl⟩
    rw [← hvr] at HV
    have HVR := Lib.hid hvr
    clear hvr
    have HUU := HU2
    simp only [Un.cells, Un.val] at HUU HV
    have x0 := HUU.out.cell 0
    have x1 := HUU.out.cell 1
    have x2 := HUU.out.cell 2
    have x3 := HUU.out.cell 3
    have x4 := HUU.out.cell 4
    have x5 := HUU.out.cell 5
    have x6 := HUU.out.cell 6
    have x7 := HUU.out.cell 7
    have x8 := HUU.out.cell 8
    have x9 := HUU.out.cell 9
    have x10 := HUU.out.cell 10
    simp only [List.getElem?_cons_zero, List.getElem?_cons_succ] at x0 x1 x2 x3 x4 x5 x6 x7 x8 x9 x10
    go_wp2_with fail
    refine (HV.out _ HGP.out).mono ?_
    rintro e w7 ⟨rfl, hL7⟩
    have hL7' : Below wc.heap.size wc w7 := hL7
    replace HU2 := Lib.hid (HU2.out.below hL7' HU2.out.lt)
    replace HE2 := Lib.hid (HE2.out.below hL7' HE2.out.lt)
    replace HL2 := Lib.hid (HL2.out.trans (hL7'.mono HL2.out.size))
    replace HR2 := Lib.hid (HR2.out.keep (Keep.ofBelow hL7') (fun _ _ => by simp))
    clear hL7 hL7' x0 x1 x2 x3 x4 x5 x6 x7 x8 x9 x10 r0 HUU HB2
    cases vr
    · have HG := Lib.hid (show getS b = (Un.zero, 6) by rw [HGR.out, hr1.out]; exact if_neg (fun h => by rw [← HVR.out] at h; exact Bool.false_ne_true h.2))
      go_wp2_with (refine store_blk rfl _ _ _ rfl w.heap.size 25 _ [.int .i64 0, .int .i64 0, .string ⟨#[]⟩, .int .i64 0, .int .u32 0, .int .i64 0, .string ⟨#[]⟩, .int .i64 0, .int .i64 0, .bool false, .slice none 0 0] rfl rfl HU2.out rfl (by kernel_rfl) (by kernel_rfl) ?_)
      intro w9 hU9 hK9
      have HU9 := Lib.hid hU9
      have HE9 := Lib.hid (HE2.out.keep hK9 (by simp))
      have HL9 := Lib.hid (HL2.out.trans (hK9.toBelowAt HL2.out.size (by simp)))
      clear hU9 hK9
      have e0 := HE9.out.cell 0
      simp only [List.getElem?_cons_zero, List.getElem?_cons_succ] at e0
      have z0 := HE9.out.free 0
      go_wp2_with fail
      exact door_ret rfl rfl rfl (HU9.out.set_far (by simp) _) (HE9.out.set 0 _) (getPost_err HG.out (HL9.out.setCell (by simp) _))
    · have HG := Lib.hid (show getS b = (u1, 0) by rw [HGR.out, hr1.out]; exact if_pos ⟨rfl, HVR.out.symm⟩)
      have HUU := HU2
      simp only [Un.cells] at HUU
      have x0 := HUU.out.cell 0
      have x1 := HUU.out.cell 1
      have x2 := HUU.out.cell 2
      have x3 := HUU.out.cell 3
      have x4 := HUU.out.cell 4
      have x5 := HUU.out.cell 5
      have x6 := HUU.out.cell 6
      have x7 := HUU.out.cell 7
      have x8 := HUU.out.cell 8
      have x9 := HUU.out.cell 9
      have x10 := HUU.out.cell 10
      simp only [List.getElem?_cons_zero, List.getElem?_cons_succ] at x0 x1 x2 x3 x4 x5 x6 x7 x8 x9 x10
      go_wp2_with (refine store_blk rfl _ _ _ rfl w.heap.size 25 _ (u1.cells (.slice ga u1.gaps.length gc)) rfl rfl HU2.out rfl (by kernel_rfl) (by simp [Un.cells, Value.oneCell']) ?_)
      intro w9 hU9 hK9
      have HU9 := Lib.hid hU9
      have HE9 := Lib.hid (HE2.out.keep hK9 (by simp))
      have HL9 := Lib.hid (HL2.out.trans (hK9.toBelowAt HL2.out.size (by simp)))
      have HW9 := Lib.hid hK9
      clear hU9 hK9
      have e0 := HE9.out.cell 0
      simp only [List.getElem?_cons_zero, List.getElem?_cons_succ] at e0
      have z0 := HE9.out.free 0
      have hnU := grow_ne HR2.out HU2.out (by decide)
      have hnE := grow_ne HR2.out HE2.out (by decide)
      have HR9 := Lib.hid (HR2.out.keep HW9.out (fun g' hg' => by simpa using hnU g' hg'))
      have HNE := Lib.hid hnE
      clear hnU hnE
      go_wp2_with fail
      have hlenc : (u1.cells (.slice ga u1.gaps.length gc)).length = 11 := rfl
      refine door_ret rfl rfl hlenc (HU9.out.set_far (by simp) _) (HE9.out.set 0 _) ⟨.slice ga u1.gaps.length gc, ?_, ?_, HL9.out.setCell (by simp) _⟩
      · rw [HG.out]; rfl
      · rw [HG.out]
        exact GRow.at (HR9.out.keep ((Keep.refl [w.heap.size + 1] w9).setCell (.inl (by simp)) _) (fun g' hg' => by simpa using HNE.out g' hg'))
end Go.Proofs.Ytkpgenmlpkfokaa
