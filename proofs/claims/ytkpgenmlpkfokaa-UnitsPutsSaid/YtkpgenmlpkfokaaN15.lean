/- What is proved here: the walk of Put of units. -/
import Derived.Test.YtkpgenmlpkfokaaN14
set_option linter.unusedVariables false
set_option linter.unusedSimpArgs false
namespace Go.Proofs.Ytkpgenmlpkfokaa
open Go.RowKit
theorem put_any (k : Nat) (h1 : 1 ≤ k) (h6 : k ≤ 6) (u : Un) (gv : Value) (w : World) (hs : smallU u) (hg : u.gaps.length ≤ 1000) (hi : intsU u) (hG : GapsAt w gv u.gaps) : Calls Try.prog (fPut k) #[u.val gv] w fun e w' => ∃ v', e = .returned v' ∧ (Row w' w.heap.size v' (bodyU k u) ∧ Below w.heap.size w w') := by
  match k, h1, h6 with
  | 1, _, _ => exact put1_any u gv w hs hi hG
  | 2, _, _ => exact put2_any u gv w hs hi hG
  | 3, _, _ => exact put3_any u gv w hs hi hG
  | 4, _, _ => exact put4_any u gv w hs hi hG
  | 5, _, _ => exact put5_any u gv w hg hi hG
  | 6, _, _ => exact put6_any u gv w hs hi hG
def headU (u : Un) : List UInt8 := byt u.kind :: beN 2 u.num
def encU (u : Un) : List UInt8 := sumB (headU u ++ bodyU u.kind.toNat u)
theorem bodyU_ne (k : Nat) (h1 : 1 ≤ k) (h6 : k ≤ 6) (u : Un) : bodyU k u ≠ [] := by
  match k, h1, h6 with
  | 1, _, _ => simp [bodyU, beN]
  | 2, _, _ => simp [bodyU, beN]
  | 3, _, _ => simp [bodyU, beN]
  | 4, _, _ => simp [bodyU, beN]
  | 5, _, _ => simp [bodyU]
  | 6, _, _ => simp [bodyU, beN]
theorem bodyU_le (k : Nat) (h1 : 1 ≤ k) (h6 : k ≤ 6) (u : Un) (hn : u.name.size ≤ 100000) (hd : u.data.size ≤ 100000) (hg : u.gaps.length ≤ 1000) : (bodyU k u).length ≤ 200000 := by
  have e1 : u.name.data.toList.length = u.name.size := by simp
  have e2 : u.data.data.toList.length = u.data.size := by simp
  match k, h1, h6 with
  | 1, _, _ => simp only [bodyU, List.length_append, beN_length]; omega
  | 2, _, _ => simp only [bodyU, List.length_append, beN_length]; omega
  | 3, _, _ => simp only [bodyU, List.length_append, beN_length]; omega
  | 4, _, _ => simp only [bodyU, beN_length]; omega
  | 5, _, _ => simp only [bodyU, List.length_cons, gaps_len]; omega
  | 6, _, _ => simp only [bodyU, beN_length]; omega
theorem row_cut {w : World} {base g cap : Nat} {xs : List UInt8} (h : Row w base (.slice (some ⟨g, 0, none⟩) xs.length cap) xs) : ∀ j u, (xs.map vb)[j]? = some u → w.cell? ⟨g, j, none⟩ = some u := row_cells h rfl
theorem field2_run (a b c d : FuncId) (W : World) : (Instr.field 54 (.agg #[.func (.func a) #[] #[], .func (.func b) #[] #[], .func (.func c) #[] #[], .func (.func d) #[] #[]]) 2).run Try.prog W = .ok (.func (.func c) #[] #[]) W := by kernel_rfl
theorem field3_run (a b c d : FuncId) (W : World) : (Instr.field 54 (.agg #[.func (.func a) #[] #[], .func (.func b) #[] #[], .func (.func c) #[] #[], .func (.func d) #[] #[]]) 3).run Try.prog W = .ok (.func (.func d) #[] #[]) W := by kernel_rfl
theorem usummed_new (base : Nat) (v : Value) (xs : List UInt8) (w : World) (hb : base ≤ w.heap.size) (hx : xs.length ≤ 1000000) (hR : Row w base v xs) :
    Calls Try.prog 25 #[v] w fun e w' => ∃ v', e = .returned v' ∧ (v' = strOf (sumB xs) ∧ Below base w w') := (usummed_any base v xs w hb hx hR).mono fun e w' h => ⟨_, h.1, rfl, h.2⟩
set_option maxHeartbeats 8000000 in
set_option maxRecDepth 100000 in
theorem uPut_in (k : Nat) (u : Un) (ga : Option Addr) (gc : Nat) (w : World) (hk : u.kind = k) (h1 : 1 ≤ k) (h6 : k ≤ 6) (hn : u.name.size ≤ 100000) (hd : u.data.size ≤ 100000) (hg : u.gaps.length ≤ 1000) (hi : intsU u) (hv : validS u = true) (hG : GapsAt w (.slice ga u.gaps.length gc) u.gaps) :
    Calls Try.prog 12 #[u.val (.slice ga u.gaps.length gc)] w fun e w' => e = .returned (.tuple #[strOf (encU u), .int .i64 0]) ∧ Below w.heap.size w w' := by
  have hs : smallU u := ⟨by omega, by omega, by omega⟩
  have HA := Lib.hid (Blk.new w (u.cells (.slice ga u.gaps.length gc)) 25)
  have HL := Lib.hid ((Below.refl w.heap.size w).alloc (Nat.le_refl _) (Obj.cells (u.cells (.slice ga u.gaps.length gc)).toArray 25))
  have HV := Lib.hid (uValid_any u (.slice ga u.gaps.length gc) (w.alloc (Obj.cells (u.cells (.slice ga u.gaps.length gc)).toArray 25)) hs.wide (hG.below HL.out (Nat.le_refl _)))
  rw [hv] at HV
  have HGv := Lib.hid hG
  have HP := Lib.hid (fun W (h : GapsAt W (.slice ga u.gaps.length gc) u.gaps) => put_any k h1 h6 u (.slice ga u.gaps.length gc) W hs hg hi h)
  have HT := Lib.hid (fun W => tab_at2 k h1 h6 W)
  have HcP := Lib.hid (fun args W => call_fPut k h1 h6 args W)
  have hbl := bodyU_le k h1 h6 u hn hd hg
  have HE := Lib.hid (show encU u = sumB (headU u ++ bodyU k u) by rw [encU, hk]; rfl)
  have HNE := Lib.hid (bodyU_ne k h1 h6 u)
  have HHD := Lib.hid (show headU u = [byt (k : Int)] ++ beN 2 u.num by rw [headU, hk]; rfl)
  obtain ⟨bl, hbe⟩ : ∃ bl, bl = bodyU k u := ⟨_, rfl⟩
  obtain ⟨hd', hhe⟩ : ∃ hd', hd' = headU u := ⟨_, rfl⟩
  obtain ⟨el, hel⟩ : ∃ el, el = encU u := ⟨_, rfl⟩
  rw [← hbe] at HE HNE HP hbl
  rw [← hhe] at HE HHD
  rw [← hel] at HE ⊢
  obtain ⟨-, -, i1, i2, -⟩ := hi
  obtain ⟨ki, nu, nm, sz, su, of, da, wy, an, me, gs⟩ := u
  simp only at hk i1 i2
  subst hk
  simp only [Un.cells, Un.val] at HA HL HV HP HGv HHD ⊢
  have HBY := Lib.hid (fun W => ubytes_new nu 2 W (by omega) i1 i2)
  obtain ⟨gv, hgv⟩ : ∃ gv, gv = Value.slice ga gs.length gc := ⟨_, rfl⟩
  rw [← hgv] at HA HL HV HP HGv ⊢
  have HGV := Lib.hid hgv
  clear hbe hhe hel hG hs hn hd hg hv i1 i2 hgv
  go_enter Try.func12, Try.ntmps12
  go_wp2_with fail
  refine HV.out.mono ?_
  rintro e w1 ⟨rfl, hL1⟩
  have hbw : w.heap.size < (w.alloc (Obj.cells #[.int .i64 (k : Int), .int .i64 nu, .string nm, .int .i64 sz, .int .u32 su, .int .i64 of, .string da, .int .i64 wy, .int .i64 an, .bool me, gv] 25)).heap.size := by simp
  replace HA := Lib.hid (HA.out.below hL1 hbw)
  replace HL := Lib.hid (HL.out.trans (hL1.mono (by simp)))
  clear hL1 HV hbw
  go_upto_region 3 with fail
  go_cut [4] (fun p wx => ∃ g cap, p = .slice (some ⟨g, 0, none⟩) hd'.length cap ∧ Hid (hd'.length = 3) ∧ Row wx w.heap.size (.slice (some ⟨g, 0, none⟩) hd'.length cap) hd' ∧ Blk wx w.heap.size [.int .i64 (k : Int), .int .i64 nu, .string nm, .int .i64 sz, .int .u32 su, .int .i64 of, .string da, .int .i64 wy, .int .i64 an, .bool me, gv] 25 ∧ Below w.heap.size w wx)
  case first =>
    have x0 := HA.out.cell 0
    have x1 := HA.out.cell 1
    have x2 := HA.out.cell 2
    have x3 := HA.out.cell 3
    have x4 := HA.out.cell 4
    have x5 := HA.out.cell 5
    have x6 := HA.out.cell 6
    have x7 := HA.out.cell 7
    have x8 := HA.out.cell 8
    have x9 := HA.out.cell 9
    have x10 := HA.out.cell 10
    simp only [List.getElem?_cons_zero, List.getElem?_cons_succ] at x0 x1 x2 x3 x4 x5 x6 x7 x8 x9 x10
    have HNL := Lib.hid (show hd'.length = 3 by rw [HHD.out, List.length_append, beN_length]; rfl)
    have hlt1 := HA.out.lt
    have hwk : IntKind.u8.wrap (k : Int) = (k : Int) % 256 := IntKind.wrap_u8' _
    have HB0 := Lib.hid (fun W : World => row_one W (byt (k : Int)) ((k : Int) % 256) (byt_toNat (k : Int)).symm)
    go_region_law (first | (refine step_call rfl 24 #[.tmp 13, .const (.int .i64 2)] _ rfl #[.int .i64 nu, .int .i64 2] (by kernel_rfl) _ (HBY.out _) ?_; rintro v5 w5 ⟨hR5, hL5⟩; have hB5 : Blk w5 w.heap.size [.int .i64 (k : Int), .int .i64 nu, .string nm, .int .i64 sz, .int .u32 su, .int .i64 of, .string da, .int .i64 wy, .int .i64 an, .bool me, gv] 25 := (by first | exact HA.out.drew.below hL5 HA.out.drew.lt | exact (HA.out.drew.alloc _).below hL5 (HA.out.drew.alloc _).lt); have y0 := hB5.cell 0; have y1 := hB5.cell 1; simp only [List.getElem?_cons_zero, List.getElem?_cons_succ] at y0 y1; have z5 := hB5.lt; have hW5 : Below w.heap.size w w5 := (by first | exact (HL.out.drew).trans (hL5.mono HL.out.size) | exact ((HL.out.alloc HL.out.size _).drew).trans (hL5.mono (by have := HL.out.size; simp; omega)))) | (have hq := row_below (row_keep (row_mono (HB0.out w1) HL.out.size) ((Keep.refl [] _).drew) (fun _ _ => by simp)) hL5 (by simp); refine step_append_slice rfl _ _ rfl w.heap.size _ [byt (k : Int)] rfl hq _ _ _ rfl hR5 (by rw [beN_length]; simp) hW5.size ?_; intro v7 w7 hR7 hK7; have hW7 := hW5.trans (hK7.toBelowAt hW5.size (fun i hi => by rw [Option.mem_toList] at hi; exact (row_lt hq i hi).1)); have hB7 := hB5.keep hK7 (fun hi => by rw [Option.mem_toList] at hi; have e : w1.heap.size = w.heap.size := Option.some.inj hi; have := HA.out.lt; omega)) | (have hq := row_mono (HB0.out w5) hW5.size; refine step_append_slice rfl _ _ rfl w.heap.size _ [byt (k : Int)] rfl hq _ _ _ rfl (row_keep hR5 ((Keep.refl [] _).alloc _) (fun _ _ => by simp)) (by rw [beN_length]; simp) (by have := hW5.size; simp; omega) ?_; intro v7 w7 hR7 hK7; have hW7 := (hW5.alloc hW5.size _).trans (hK7.toBelowAt (by have := hW5.size; simp; omega) (fun i hi => by rw [Option.mem_toList] at hi; exact (row_lt hq i hi).1)); have hB7 := (hB5.alloc _).keep hK7 (fun hi => by rw [Option.mem_toList] at hi; have e : w5.heap.size = w.heap.size := Option.some.inj hi; have := hB5.lt; omega)))
    all_goals
      go_wp2_with fail
      go_meet
      obtain ⟨g7, c7, hv7, -, -⟩ := row_form1 hR7 (by simp)
      rw [hv7] at hR7
      rw [← HHD.out] at hR7
      refine ⟨g7, c7, ?_, HNL, hR7, hB7, hW7⟩
      rw [hv7, ← HHD.out]
  case rest =>
    obtain ⟨g, cap, rfl, hn3, hR, hB, hL⟩ := hcut
    obtain ⟨b0, b1, b2, hb⟩ : ∃ b0 b1 b2, hd' = [b0, b1, b2] := ⟨_, _, _, by rw [HHD.out]; rfl⟩
    subst hb
    have HB := Lib.hid hB
    have HL2 := Lib.hid hL
    have HC := Lib.hid (row_cut hR)
    have hgl : g < wc.heap.size := (row_lt hR g rfl).2
    have hcap : 3 ≤ cap := by
      rcases hR with ⟨h, _⟩ | ⟨g', cap', cur, fr, hv, _, _, _, hc', _⟩
      · cases h
      · injection hv with _ _ e3; rw [e3]; exact hc'
    simp only [List.length_cons, List.length_nil, Nat.zero_add, Nat.reduceAdd]
    have hfl := fun W => field2_run (fOnly k) (fValid k) (fPut k) (fGet k) W
    have hcap2 : (3 : Int) ≤ (cap : Int) := by omega
    clear hR hB hL hn3 HA HL HBY HHD
    have htk := fun W => HT.out W
    have x0 := HB.out.cell 0
    have x1 := HB.out.cell 1
    have x2 := HB.out.cell 2
    have x3 := HB.out.cell 3
    have x4 := HB.out.cell 4
    have x5 := HB.out.cell 5
    have x6 := HB.out.cell 6
    have x7 := HB.out.cell 7
    have x8 := HB.out.cell 8
    have x9 := HB.out.cell 9
    have x10 := HB.out.cell 10
    simp only [List.getElem?_cons_zero, List.getElem?_cons_succ] at x0 x1 x2 x3 x4 x5 x6 x7 x8 x9 x10
    go_wp2_with fail
    go_region_law (first | (refine step_call rfl 26 #[] _ rfl #[] (by kernel_rfl) _ (ukinds_new _) ?_; rintro v5 w5 ⟨rfl, hL5⟩; have hB5 : Blk w5 w.heap.size [.int .i64 (k : Int), .int .i64 nu, .string nm, .int .i64 sz, .int .u32 su, .int .i64 of, .string da, .int .i64 wy, .int .i64 an, .bool me, gv] 25 := HB.out.drew.below hL5 HB.out.drew.lt; have y0 := hB5.cell 0; have y1 := hB5.cell 1; have y2 := hB5.cell 2; have y3 := hB5.cell 3; have y4 := hB5.cell 4; have y5 := hB5.cell 5; have y6 := hB5.cell 6; have y7 := hB5.cell 7; have y8 := hB5.cell 8; have y9 := hB5.cell 9; have y10 := hB5.cell 10; simp only [List.getElem?_cons_zero, List.getElem?_cons_succ] at y0 y1 y2 y3 y4 y5 y6 y7 y8 y9 y10; have hW5 : Below wc.heap.size wc w5 := (below_quiet wc 1).1.trans hL5) | (refine step_call_dyn rfl (.tmp 22) (.tmp 23) _ rfl (fPut k) (.agg #[.int .i64 (k : Int), .int .i64 nu, .string nm, .int .i64 sz, .int .u32 su, .int .i64 of, .string da, .int .i64 wy, .int .i64 an, .bool me, gv]) rfl rfl (HcP.out _ _) _ (HP.out _ (HGv.out.below (HL2.out.trans (hW5.mono HL2.out.size)) (Nat.le_refl _))) ?_; rintro v6 w6 ⟨hR6, hL6⟩; have hW6 := hW5.trans (hL6.mono hW5.size); have hc6 : ∀ j u, ([b0, b1, b2].map vb)[j]? = some u → w6.cell? ⟨g, j, none⟩ = some u := fun j u hj => (hW6.cell (p := ⟨g, j, none⟩) hgl).trans (HC.out j u hj)) | (refine step_append_cut rfl _ _ rfl g [b0, b1, b2] hc6 rfl (by simp) _ _ bl rfl hR6 HNE.out (by simp; omega) ?_; intro v7 w7 hR7 hK7; have hW7 := hW6.trans (hK7.toBelow.mono hW6.size)) | (refine step_call rfl 25 _ _ rfl #[v7] (by kernel_rfl) _ (usummed_new w6.heap.size v7 ([b0, b1, b2] ++ bl) w7 hK7.size (by simp; omega) hR7) ?_; rintro v8 w8 ⟨rfl, hL8⟩; have hW8 := hW7.trans (hL8.mono hW6.size)))
    all_goals
      go_wp2_with fail
      go_ret2
      exact ⟨by rw [HE.out]; rfl, HL2.out.trans (hW8.mono HL2.out.size)⟩
end Go.Proofs.Ytkpgenmlpkfokaa
