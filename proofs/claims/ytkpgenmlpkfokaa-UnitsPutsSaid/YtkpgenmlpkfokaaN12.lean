/- What is proved here: the walk of Valid of units. -/
import Derived.Test.YtkpgenmlpkfokaaN11
set_option linter.unusedVariables false
set_option linter.unusedSimpArgs false
namespace Go.Proofs.Ytkpgenmlpkfokaa
open Go.RowKit
def fullU (k : Nat) (u : Un) : Un := { onlyU k u with kind := u.kind, num := u.num }
def validS (u : Un) : Bool := decide (1 ≤ u.kind ∧ u.kind ≤ 6) && decide (0 ≤ u.num ∧ u.num ≤ 65535) && sameU (fullU u.kind.toNat u) u && validU u.kind.toNat u
theorem only_gaps {w : World} {gv : Value} {u : Un} (k : Nat) (h1 : 1 ≤ k) (h6 : k ≤ 6) (h : GapsAt w gv u.gaps) : GapsAt w (onlyG k gv) (onlyU k u).gaps := by
  match k, h1, h6 with
  | 1, _, _ => exact GapsAt.nil w
  | 2, _, _ => exact GapsAt.nil w
  | 3, _, _ => exact GapsAt.nil w
  | 4, _, _ => exact GapsAt.nil w
  | 5, _, _ => exact h
  | 6, _, _ => exact GapsAt.nil w
theorem only_small {u : Un} (k : Nat) (h1 : 1 ≤ k) (h6 : k ≤ 6) (h : u.gaps.length ≤ 1000000) : (onlyU k u).gaps.length ≤ 1000000 := by
  match k, h1, h6 with
  | 1, _, _ => exact Nat.zero_le _
  | 2, _, _ => exact Nat.zero_le _
  | 3, _, _ => exact Nat.zero_le _
  | 4, _, _ => exact Nat.zero_le _
  | 5, _, _ => exact h
  | 6, _, _ => exact Nat.zero_le _
theorem tab_at2 (k : Nat) (h1 : 1 ≤ k) (h6 : k ≤ 6) (W : World) : (Instr.index 55 tabV (.int .i64 (k : Int))).run Try.prog W = .ok (.agg #[.func (.func (fOnly k)) #[] #[], .func (.func (fValid k)) #[] #[], .func (.func (fPut k)) #[] #[], .func (.func (fGet k)) #[] #[]]) W := tab_at k h1 h6 W
theorem call_fOnly (k : Nat) (h1 : 1 ≤ k) (h6 : k ≤ 6) (args : Array Value) (W : World) : (callFunc (fOnly k) args).run Try.prog W = .ok (.enter (fOnly k) args) W := by
  have t1 : (callFunc (fOnly 1) args).run Try.prog W = .ok (.enter (fOnly 1) args) W := by kernel_rfl
  have t2 : (callFunc (fOnly 2) args).run Try.prog W = .ok (.enter (fOnly 2) args) W := by kernel_rfl
  have t3 : (callFunc (fOnly 3) args).run Try.prog W = .ok (.enter (fOnly 3) args) W := by kernel_rfl
  have t4 : (callFunc (fOnly 4) args).run Try.prog W = .ok (.enter (fOnly 4) args) W := by kernel_rfl
  have t5 : (callFunc (fOnly 5) args).run Try.prog W = .ok (.enter (fOnly 5) args) W := by kernel_rfl
  have t6 : (callFunc (fOnly 6) args).run Try.prog W = .ok (.enter (fOnly 6) args) W := by kernel_rfl
  match k, h1, h6 with
  | 1, _, _ => exact t1
  | 2, _, _ => exact t2
  | 3, _, _ => exact t3
  | 4, _, _ => exact t4
  | 5, _, _ => exact t5
  | 6, _, _ => exact t6
theorem call_fValid (k : Nat) (h1 : 1 ≤ k) (h6 : k ≤ 6) (args : Array Value) (W : World) : (callFunc (fValid k) args).run Try.prog W = .ok (.enter (fValid k) args) W := by
  have t1 : (callFunc (fValid 1) args).run Try.prog W = .ok (.enter (fValid 1) args) W := by kernel_rfl
  have t2 : (callFunc (fValid 2) args).run Try.prog W = .ok (.enter (fValid 2) args) W := by kernel_rfl
  have t3 : (callFunc (fValid 3) args).run Try.prog W = .ok (.enter (fValid 3) args) W := by kernel_rfl
  have t4 : (callFunc (fValid 4) args).run Try.prog W = .ok (.enter (fValid 4) args) W := by kernel_rfl
  have t5 : (callFunc (fValid 5) args).run Try.prog W = .ok (.enter (fValid 5) args) W := by kernel_rfl
  have t6 : (callFunc (fValid 6) args).run Try.prog W = .ok (.enter (fValid 6) args) W := by kernel_rfl
  match k, h1, h6 with
  | 1, _, _ => exact t1
  | 2, _, _ => exact t2
  | 3, _, _ => exact t3
  | 4, _, _ => exact t4
  | 5, _, _ => exact t5
  | 6, _, _ => exact t6
theorem call_fPut (k : Nat) (h1 : 1 ≤ k) (h6 : k ≤ 6) (args : Array Value) (W : World) : (callFunc (fPut k) args).run Try.prog W = .ok (.enter (fPut k) args) W := by
  have t1 : (callFunc (fPut 1) args).run Try.prog W = .ok (.enter (fPut 1) args) W := by kernel_rfl
  have t2 : (callFunc (fPut 2) args).run Try.prog W = .ok (.enter (fPut 2) args) W := by kernel_rfl
  have t3 : (callFunc (fPut 3) args).run Try.prog W = .ok (.enter (fPut 3) args) W := by kernel_rfl
  have t4 : (callFunc (fPut 4) args).run Try.prog W = .ok (.enter (fPut 4) args) W := by kernel_rfl
  have t5 : (callFunc (fPut 5) args).run Try.prog W = .ok (.enter (fPut 5) args) W := by kernel_rfl
  have t6 : (callFunc (fPut 6) args).run Try.prog W = .ok (.enter (fPut 6) args) W := by kernel_rfl
  match k, h1, h6 with
  | 1, _, _ => exact t1
  | 2, _, _ => exact t2
  | 3, _, _ => exact t3
  | 4, _, _ => exact t4
  | 5, _, _ => exact t5
  | 6, _, _ => exact t6
theorem call_fGet (k : Nat) (h1 : 1 ≤ k) (h6 : k ≤ 6) (args : Array Value) (W : World) : (callFunc (fGet k) args).run Try.prog W = .ok (.enter (fGet k) args) W := by
  have t1 : (callFunc (fGet 1) args).run Try.prog W = .ok (.enter (fGet 1) args) W := by kernel_rfl
  have t2 : (callFunc (fGet 2) args).run Try.prog W = .ok (.enter (fGet 2) args) W := by kernel_rfl
  have t3 : (callFunc (fGet 3) args).run Try.prog W = .ok (.enter (fGet 3) args) W := by kernel_rfl
  have t4 : (callFunc (fGet 4) args).run Try.prog W = .ok (.enter (fGet 4) args) W := by kernel_rfl
  have t5 : (callFunc (fGet 5) args).run Try.prog W = .ok (.enter (fGet 5) args) W := by kernel_rfl
  have t6 : (callFunc (fGet 6) args).run Try.prog W = .ok (.enter (fGet 6) args) W := by kernel_rfl
  match k, h1, h6 with
  | 1, _, _ => exact t1
  | 2, _, _ => exact t2
  | 3, _, _ => exact t3
  | 4, _, _ => exact t4
  | 5, _, _ => exact t5
  | 6, _, _ => exact t6
theorem ukinds_new (w : World) : Calls Try.prog 26 #[] w fun e w' => ∃ v, e = .returned v ∧ (v = tabV ∧ Below w.heap.size w w') := (ukinds_any w).mono fun e w' h => ⟨_, h.1, rfl, h.2⟩
theorem set01 {w : World} {h : Nat} {x y : Value} {l : List Value} {t : TypeId} (H : Blk w h (x :: y :: l) t) (a b : Value) : Blk ((w.setCell ⟨h, 0, none⟩ a).setCell ⟨h, 1, none⟩ b) h (a :: b :: l) t := (H.set 0 a).set 1 b
theorem set10 {w : World} {h : Nat} {x y : Value} {l : List Value} {t : TypeId} (H : Blk w h (x :: y :: l) t) (a b : Value) : Blk ((w.setCell ⟨h, 1, none⟩ b).setCell ⟨h, 0, none⟩ a) h (a :: b :: l) t := (H.set 1 b).set 0 a
set_option maxHeartbeats 8000000 in
set_option maxRecDepth 100000 in
theorem uValid_out (u : Un) (gv : Value) (w : World) (h : ¬ (1 ≤ u.kind ∧ u.kind ≤ 6) ∨ ¬ (0 ≤ u.num ∧ u.num ≤ 65535)) : Calls Try.prog 14 #[u.val gv] w fun e w' => e = .returned (.bool false) ∧ Below w.heap.size w w' := by
  have HA := Lib.hid (Blk.new w (u.cells gv) 25)
  obtain ⟨ki, nu, nm, sz, su, of, da, wy, an, me, gs⟩ := u
  simp only [Un.cells, Un.val] at HA h ⊢
  have x0 := HA.out.cell 0
  have x1 := HA.out.cell 1
  have x2 := HA.out.cell 2
  have x3 := HA.out.cell 3
  have x4 := HA.out.cell 4
  have x5 := HA.out.cell 5
  have x6 := HA.out.cell 6
  have x7 := HA.out.cell 7
  have x8 := HA.out.cell 8
  have x9 := HA.out.cell 9
  have x10 := HA.out.cell 10
  simp only [List.getElem?_cons_zero, List.getElem?_cons_succ] at x0 x1 x2 x3 x4 x5 x6 x7 x8 x9 x10
  have H1 := Lib.hid (fun W => uwithin_any ki 1 6 W)
  have H2 := Lib.hid (fun W => uwithin_any nu 0 65535 W)
  by_cases h1 : 1 ≤ ki ∧ ki ≤ 6
  · have h2 : ¬ (0 ≤ nu ∧ nu ≤ 65535) := by rcases h with h | h; exact absurd h1 h; exact h
    rw [decide_eq_true h1] at H1
    rw [decide_eq_false h2] at H2
    clear h h1 h2
    go_enter Try.func14, Try.ntmps14
    go_wp2_with fail
    refine (H1.out _).mono ?_
    rintro e _ ⟨rfl, rfl⟩
    go_wp2_with fail
    refine (H2.out _).mono ?_
    rintro e _ ⟨rfl, rfl⟩
    go_wp2_with fail
    go_ret
    exact ⟨rfl, (Below.refl _ _).alloc (Nat.le_refl _) _⟩
  · rw [decide_eq_false h1] at H1
    clear h h1
    go_enter Try.func14, Try.ntmps14
    go_wp2_with fail
    refine (H1.out _).mono ?_
    rintro e _ ⟨rfl, rfl⟩
    go_wp2_with fail
    go_ret
    exact ⟨rfl, (Below.refl _ _).alloc (Nat.le_refl _) _⟩
set_option maxHeartbeats 8000000 in
set_option maxRecDepth 100000 in
theorem uValid_in (k : Nat) (u : Un) (gv : Value) (w : World) (hk : u.kind = k) (h1 : 1 ≤ k) (h6 : k ≤ 6) (hn : 0 ≤ u.num ∧ u.num ≤ 65535) (hs : wideU u) (hG : GapsAt w gv u.gaps) : Calls Try.prog 14 #[u.val gv] w fun e w' => e = .returned (.bool (sameU (fullU k u) u && validU k u)) ∧ Below w.heap.size w w' := by
  have HA := Lib.hid (Blk.new w (u.cells gv) 25)
  have HL := Lib.hid ((Below.refl w.heap.size w).alloc (Nat.le_refl _) (Obj.cells (u.cells gv).toArray 25))
  have HGo := Lib.hid (only_gaps k h1 h6 hG)
  have hso := only_small k h1 h6 hs.2.2
  have HGv := Lib.hid hG
  have hG' := hG
  obtain ⟨ga, gc, rfl, -⟩ := hG'
  have HO := Lib.hid (fun W => only_any k h1 h6 u ga u.gaps.length gc W)
  have HV := Lib.hid (fun W (h : GapsAt W (.slice ga u.gaps.length gc) u.gaps) => valid_any k h1 h6 u (.slice ga u.gaps.length gc) W hs h)
  have HS := Lib.hid (fun ov W (h : GapsAt W ov (fullU k u).gaps) (h' : GapsAt W (.slice ga u.gaps.length gc) u.gaps) => usame_any (fullU k u) u ov (.slice ga u.gaps.length gc) W hso hs.2.2 h h')
  obtain ⟨r1, hr1⟩ : ∃ r1 : Bool, r1 = sameU (fullU k u) u := ⟨_, rfl⟩
  obtain ⟨r2, hr2⟩ : ∃ r2 : Bool, r2 = validU k u := ⟨_, rfl⟩
  have HF := Lib.hid (show fullU k u = { onlyU k u with kind := (k : Int), num := u.num } by rw [← hk]; rfl)
  rw [← hr1] at HS ⊢
  rw [← hr2] at HV ⊢
  rw [HF.out] at HS
  obtain ⟨o, ho⟩ : ∃ o, o = onlyU k u := ⟨_, rfl⟩
  obtain ⟨og, hog⟩ : ∃ og, og = onlyG k (.slice ga u.gaps.length gc) := ⟨_, rfl⟩
  rw [← ho] at HS HO HGo
  rw [← hog] at HO HGo
  have hgo := HGo.out
  obtain ⟨oa, oc, hoe, -⟩ := hgo
  have HT := Lib.hid (fun W => tab_at2 k h1 h6 W)
  have hcO := fun args W => call_fOnly k h1 h6 args W
  have hcV := fun args W => call_fValid k h1 h6 args W
  obtain ⟨ki, nu, nm, sz, su, of, da, wy, an, me, gs⟩ := u
  simp only at hk
  subst hk
  have H1 := Lib.hid (fun W => uwithin_any (k : Int) 1 6 W)
  have H2 := Lib.hid (fun W => uwithin_any nu 0 65535 W)
  rw [decide_eq_true (by omega : 1 ≤ (k : Int) ∧ (k : Int) ≤ 6)] at H1
  rw [decide_eq_true hn] at H2
  simp only [Un.cells, Un.val] at HA HL HO HV HS HGv ⊢
  subst hoe
  clear hr1 hr2 HF ho hog hG hn hs hso h1 h6
  have x0 := HA.out.cell 0
  have x1 := HA.out.cell 1
  have x2 := HA.out.cell 2
  have x3 := HA.out.cell 3
  have x4 := HA.out.cell 4
  have x5 := HA.out.cell 5
  have x6 := HA.out.cell 6
  have x7 := HA.out.cell 7
  have x8 := HA.out.cell 8
  have x9 := HA.out.cell 9
  have x10 := HA.out.cell 10
  simp only [List.getElem?_cons_zero, List.getElem?_cons_succ] at x0 x1 x2 x3 x4 x5 x6 x7 x8 x9 x10
  go_enter Try.func14, Try.ntmps14
  go_wp2_with fail
  refine (H1.out _).mono ?_
  rintro e _ ⟨rfl, rfl⟩
  go_wp2_with fail
  refine (H2.out _).mono ?_
  rintro e _ ⟨rfl, rfl⟩
  go_upto_region 3 with fail
  go_cut [3] (fun p wx => ∃ g, p = .pointer (some ⟨g, 0, none⟩) ∧ w.heap.size < g ∧ Blk wx g [.func (.func (fOnly k)) #[] #[], .func (.func (fValid k)) #[] #[], .func (.func (fPut k)) #[] #[], .func (.func (fGet k)) #[] #[]] 54 ∧ Blk wx w.heap.size [.int .i64 (k : Int), .int .i64 nu, .string nm, .int .i64 sz, .int .u32 su, .int .i64 of, .string da, .int .i64 wy, .int .i64 an, .bool me, .slice ga gs.length gc] 25 ∧ Below w.heap.size w wx)
  case first =>
    have htk := fun W => HT.out W
    have HC := Lib.hid (Blk.new_at (w.alloc (Obj.cells #[.int .i64 (k : Int), .int .i64 nu, .string nm, .int .i64 sz, .int .u32 su, .int .i64 of, .string da, .int .i64 wy, .int .i64 an, .bool me, .slice ga gs.length gc] 25)) [.nilFunc, .nilFunc, .nilFunc, .nilFunc] 54 (w.heap.size + 1) (by simp))
    go_region_law (refine step_call rfl 26 #[] _ rfl #[] (by kernel_rfl) _ (ukinds_new _) ?_; rintro v5 w5 ⟨rfl, hL5⟩; have hB5 : Blk w5 w.heap.size [.int .i64 (k : Int), .int .i64 nu, .string nm, .int .i64 sz, .int .u32 su, .int .i64 of, .string da, .int .i64 wy, .int .i64 an, .bool me, .slice ga gs.length gc] 25 := (by first | exact HA.out.drew.below hL5 HA.out.drew.lt | exact (HA.out.drew.alloc _).below hL5 (HA.out.drew.alloc _).lt); have y0 := hB5.cell 0; simp only [List.getElem?_cons_zero] at y0; have z5 := hB5.lt; have hW5 : Below w.heap.size w w5 := (by first | exact (HL.out.drew).trans (hL5.mono (by simp)) | exact ((HL.out.alloc HL.out.size _).drew).trans (hL5.mono (by simp; omega))); try (have hC5 : Blk w5 (w.heap.size + 1) [.nilFunc, .nilFunc, .nilFunc, .nilFunc] 54 := (HC.out.drew.below hL5 HC.out.drew.lt); have n0 := hC5.cell 0; have m0 := hC5.free 0; have n1 := hC5.cell 1; have m1 := hC5.free 1; have n2 := hC5.cell 2; have m2 := hC5.free 2; have n3 := hC5.cell 3; have m3 := hC5.free 3; simp only [List.getElem?_cons_zero, List.getElem?_cons_succ] at n0 n1 n2 n3))
    all_goals
      go_wp2_with fail
      go_meet
      first
      | (refine ⟨w5.heap.size, by with_reducible rfl, ?_⟩; exact ⟨hB5.lt, Blk.new w5 _ _, hB5.alloc _, hW5.alloc hW5.size _⟩)
      | (refine ⟨w.heap.size + 1, by with_reducible rfl, ?_⟩; exact ⟨by omega, (((hC5.set 0 _).set 1 _).set 2 _).set 3 _, (((hB5.set_far (by simp) _).set_far (by simp) _).set_far (by simp) _).set_far (by simp) _, (((hW5.setCell (by simp) _).setCell (by simp) _).setCell (by simp) _).setCell (by simp) _⟩)
  case rest =>
    obtain ⟨g, rfl, hgw, hC, hB, hL⟩ := hcut
    have HC := Lib.hid hC; have HB := Lib.hid hB; have HL5 := Lib.hid hL
    clear hC hB hL HA HL HT H1 H2 x0 x1 x2 x3 x4 x5 x6 x7 x8 x9 x10
    have x0 := HB.out.cell 0
    have x1 := HB.out.cell 1
    have x2 := HB.out.cell 2
    have x3 := HB.out.cell 3
    have x4 := HB.out.cell 4
    have x5 := HB.out.cell 5
    have x6 := HB.out.cell 6
    have x7 := HB.out.cell 7
    have x8 := HB.out.cell 8
    have x9 := HB.out.cell 9
    have x10 := HB.out.cell 10
    simp only [List.getElem?_cons_zero, List.getElem?_cons_succ] at x0 x1 x2 x3 x4 x5 x6 x7 x8 x9 x10
    have c0 := HC.out.cell 0
    have c1 := HC.out.cell 1
    have c2 := HC.out.cell 2
    have c3 := HC.out.cell 3
    simp only [List.getElem?_cons_zero, List.getElem?_cons_succ] at c0 c1 c2 c3
    go_wp2_with fail
    refine (HO.out _).mono ?_
    rintro e w6 ⟨rfl, hL6⟩
    obtain ⟨h, hh⟩ : ∃ h, h = w6.heap.size := ⟨_, rfl⟩
    have hgh : g < h := by have := HC.out.lt; have := hL6.size; omega
    replace HC := Lib.hid (HC.out.below hL6 HC.out.lt)
    replace HB := Lib.hid (HB.out.below hL6 HB.out.lt)
    replace HL5 := Lib.hid (HL5.out.trans (hL6.mono HL5.out.size))
    clear hL6 HO x0 x1 x2 x3 x4 x5 x6 x7 x8 x9 x10 c0 c1 c2 c3
    go_upto_region 5 with fail
    have HH := Lib.hid (Blk.new w6 [.int .i64 o.kind, .int .i64 o.num, .string o.name, .int .i64 o.size, .int .u32 o.sum, .int .i64 o.off, .string o.data, .int .i64 o.why, .int .i64 o.ans, .bool o.meta_, .slice oa o.gaps.length oc] 25)
    rw [← hh] at HH ⊢
    refine gen_world (fun w' => Blk w' h [.int .i64 o.kind, .int .i64 o.num, .string o.name, .int .i64 o.size, .int .u32 o.sum, .int .i64 o.off, .string o.data, .int .i64 o.why, .int .i64 o.ans, .bool o.meta_, .slice oa o.gaps.length oc] 25 ∧ Blk w' g [.func (.func (fOnly k)) #[] #[], .func (.func (fValid k)) #[] #[], .func (.func (fPut k)) #[] #[], .func (.func (fGet k)) #[] #[]] 54 ∧ Blk w' w.heap.size [.int .i64 (k : Int), .int .i64 nu, .string nm, .int .i64 sz, .int .u32 su, .int .i64 of, .string da, .int .i64 wy, .int .i64 an, .bool me, .slice ga gs.length gc] 25 ∧ Below w.heap.size w w') ⟨HH.out, HC.out.alloc _, HB.out.alloc _, HL5.out.alloc HL5.out.size _⟩ ?_
    clear HH HC HB HL5 hh
    rintro v ⟨hH, hC, hB, hL⟩
    have HH := Lib.hid hH; have HC := Lib.hid hC; have HB := Lib.hid hB; have HL5 := Lib.hid hL
    clear hH hC hB hL
    have hwh : w.heap.size < h := by omega
    go_cut [2] (fun p wx => p = .bool false ∧ Blk wx h [.int .i64 (k : Int), .int .i64 nu, .string o.name, .int .i64 o.size, .int .u32 o.sum, .int .i64 o.off, .string o.data, .int .i64 o.why, .int .i64 o.ans, .bool o.meta_, .slice oa o.gaps.length oc] 25 ∧ Blk wx g [.func (.func (fOnly k)) #[] #[], .func (.func (fValid k)) #[] #[], .func (.func (fPut k)) #[] #[], .func (.func (fGet k)) #[] #[]] 54 ∧ Blk wx w.heap.size [.int .i64 (k : Int), .int .i64 nu, .string nm, .int .i64 sz, .int .u32 su, .int .i64 of, .string da, .int .i64 wy, .int .i64 an, .bool me, .slice ga gs.length gc] 25 ∧ Below w.heap.size w wx)
    case first =>
      have x0 := HB.out.cell 0
      have x1 := HB.out.cell 1
      have h0 := HH.out.cell 0
      have h1 := HH.out.cell 1
      simp only [List.getElem?_cons_zero, List.getElem?_cons_succ] at x0 x1 h0 h1
      have f0 := HH.out.free 0
      have f1 := HH.out.free 1
      have n1 : ¬ h = w.heap.size := by omega
      have n2 : ¬ w.heap.size = h := by omega
      go_region_law (fail)
      all_goals
        go_wp2_with fail
        go_meet
        first
        | (refine ⟨by with_reducible rfl, by with_reducible exact (set01 HH.out _ _).drew, ?_⟩; exact ⟨((HC.out.set_far (by simp; omega) _).set_far (by simp; omega) _).drew, ((HB.out.set_far (by simp; omega) _).set_far (by simp; omega) _).drew, ((HL5.out.setCell (by simp; omega) _).setCell (by simp; omega) _).drew⟩)
        | (refine ⟨by with_reducible rfl, by with_reducible exact (set10 HH.out _ _).drew, ?_⟩; exact ⟨((HC.out.set_far (by simp; omega) _).set_far (by simp; omega) _).drew, ((HB.out.set_far (by simp; omega) _).set_far (by simp; omega) _).drew, ((HL5.out.setCell (by simp; omega) _).setCell (by simp; omega) _).drew⟩)
    case rest =>
      obtain ⟨rfl, hH, hC, hB, hL⟩ := hcut
      have HH2 := Lib.hid hH; have HC2 := Lib.hid hC; have HB2 := Lib.hid hB; have HL6 := Lib.hid hL
      clear hH hC hB hL HH HC HB HL5
      have x0 := HB2.out.cell 0
      have x1 := HB2.out.cell 1
      have x2 := HB2.out.cell 2
      have x3 := HB2.out.cell 3
      have x4 := HB2.out.cell 4
      have x5 := HB2.out.cell 5
      have x6 := HB2.out.cell 6
      have x7 := HB2.out.cell 7
      have x8 := HB2.out.cell 8
      have x9 := HB2.out.cell 9
      have x10 := HB2.out.cell 10
      simp only [List.getElem?_cons_zero, List.getElem?_cons_succ] at x0 x1 x2 x3 x4 x5 x6 x7 x8 x9 x10
      have y0 := HH2.out.cell 0
      have y1 := HH2.out.cell 1
      have y2 := HH2.out.cell 2
      have y3 := HH2.out.cell 3
      have y4 := HH2.out.cell 4
      have y5 := HH2.out.cell 5
      have y6 := HH2.out.cell 6
      have y7 := HH2.out.cell 7
      have y8 := HH2.out.cell 8
      have y9 := HH2.out.cell 9
      have y10 := HH2.out.cell 10
      simp only [List.getElem?_cons_zero, List.getElem?_cons_succ] at y0 y1 y2 y3 y4 y5 y6 y7 y8 y9 y10
      go_wp2_with fail
      refine (HS.out _ _ (HGo.out.below HL6.out (Nat.le_refl _)) (HGv.out.below HL6.out (Nat.le_refl _))).mono ?_
      rintro e w7 ⟨rfl, hL7⟩
      replace HC2 := Lib.hid (HC2.out.below hL7 HC2.out.lt)
      replace HB2 := Lib.hid (HB2.out.below hL7 HB2.out.lt)
      replace HL6 := Lib.hid (HL6.out.trans (hL7.mono HL6.out.size))
      clear hL7 x0 x1 x2 x3 x4 x5 x6 x7 x8 x9 x10 y0 y1 y2 y3 y4 y5 y6 y7 y8 y9 y10 HH2
      have x0 := HB2.out.cell 0
      have x1 := HB2.out.cell 1
      have x2 := HB2.out.cell 2
      have x3 := HB2.out.cell 3
      have x4 := HB2.out.cell 4
      have x5 := HB2.out.cell 5
      have x6 := HB2.out.cell 6
      have x7 := HB2.out.cell 7
      have x8 := HB2.out.cell 8
      have x9 := HB2.out.cell 9
      have x10 := HB2.out.cell 10
      simp only [List.getElem?_cons_zero, List.getElem?_cons_succ] at x0 x1 x2 x3 x4 x5 x6 x7 x8 x9 x10
      have c0 := HC2.out.cell 0
      have c1 := HC2.out.cell 1
      have c2 := HC2.out.cell 2
      have c3 := HC2.out.cell 3
      simp only [List.getElem?_cons_zero, List.getElem?_cons_succ] at c0 c1 c2 c3
      cases r1
      · go_wp2_with fail
        go_ret
        exact ⟨rfl, HL6.out⟩
      · go_wp2_with fail
        refine (HV.out _ (HGv.out.below HL6.out (Nat.le_refl _))).mono ?_
        rintro e w8 ⟨rfl, hL8⟩
        replace HL6 := Lib.hid (HL6.out.trans (hL8.mono HL6.out.size))
        clear hL8
        go_wp2_with fail
        go_ret
        exact ⟨rfl, HL6.out⟩
theorem uValid_any (u : Un) (gv : Value) (w : World) (hs : wideU u) (hG : GapsAt w gv u.gaps) : Calls Try.prog 14 #[u.val gv] w fun e w' => e = .returned (.bool (validS u)) ∧ Below w.heap.size w w' := by
  by_cases h1 : 1 ≤ u.kind ∧ u.kind ≤ 6
  case neg => exact (uValid_out u gv w (.inl h1)).mono fun e w' h => ⟨by rw [h.1, validS, decide_eq_false h1]; simp, h.2⟩
  by_cases h2 : 0 ≤ u.num ∧ u.num ≤ 65535
  case neg => exact (uValid_out u gv w (.inr h2)).mono fun e w' h => ⟨by rw [h.1, validS, decide_eq_false h2]; simp, h.2⟩
  obtain ⟨k, hk⟩ := Int.eq_ofNat_of_zero_le (by omega : 0 ≤ u.kind)
  refine (uValid_in k u gv w hk (by omega) (by omega) h2 hs hG).mono fun e w' h => ⟨?_, h.2⟩
  rw [h.1, validS, decide_eq_true h1, decide_eq_true h2, hk]
  simp
end Go.Proofs.Ytkpgenmlpkfokaa
