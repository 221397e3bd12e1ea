/- What is proved here: the frame that the automaton on the ground makes of a unit. -/
import Derived.Test.YtbncejmohhejlaaFo8
import Derived.Test.YtbncejmohhejlaaT5
import Derived.Test.YtbncejmohhejlaaStep
import Derived.Test.YtbncejmohhejlaaKit
import Derived.Deep.MidRow
set_option linter.unusedVariables false
set_option linter.unusedSimpArgs false
namespace Go.Proofs.Ytbncejmohhejlaa
open Go.RowKit
section
theorem and255n : ∀ n : Nat, n < 512 → bits .and .i64 (n : Int) 255 = (n : Int) % 256 := by decide +kernel
theorem and255w (d : Int) (h0 : 0 ≤ d) (h1 : d < 512) : bits .and .i64 d 255 = d % 256 := by
  have := and255n d.toNat (by omega)
  rw [show ((d.toNat : Nat) : Int) = d by omega] at this
  exact this
def frameF (s : Fs) (n : Int) (d : ByteArray) : Tc := ⟨s.craft, s.chan, false, false, n % 256, d⟩
set_option maxHeartbeats 2000000 in
set_option maxRecDepth 100000 in
theorem frame_in (n : Int) (d : ByteArray) (s : Fs) (g : Nat) (S : List Nat) (w : World) (h0 : 0 ≤ n) (h1 : n < 512) (h : FopIn w g S s) :
    Calls Try.prog 39 #[.pointer (some ⟨g, 0, none⟩), .int .i64 n, .string d] w fun e w' => e = .returned (.agg #[.int .i64 s.craft, .int .i64 s.chan, .bool false, .bool false, .int .i64 (n % 256), .string d]) ∧ Below w.heap.size w w' := by
  have hb := and255w n h0 h1
  obtain ⟨ve, vw, vs, vb, hF, hS⟩ := h
  have HB := Lib.hid (hF.blk.alloc (Obj.cells #[.int .i64 0, .int .i64 0, .bool false, .bool false, .int .i64 0, .string ⟨#[]⟩] 31))
  have HR := Lib.hid (Blk.new w [.int .i64 0, .int .i64 0, .bool false, .bool false, .int .i64 0, .string ⟨#[]⟩] 31)
  have HL := Lib.hid ((Below.refl w.heap.size w).alloc (Nat.le_refl _) (Obj.cells #[.int .i64 0, .int .i64 0, .bool false, .bool false, .int .i64 0, .string ⟨#[]⟩] 31))
  clear hF hS
  have c1 := HB.out.cell 1; have c2 := HB.out.cell 2
  simp only [Fs.cells, List.getElem?_cons_zero, List.getElem?_cons_succ] at c1 c2
  have r0 := HR.out.cell 0
  have r1 := HR.out.cell 1
  have r2 := HR.out.cell 2
  have r3 := HR.out.cell 3
  have r4 := HR.out.cell 4
  have r5 := HR.out.cell 5
  simp only [List.getElem?_cons_zero, List.getElem?_cons_succ] at r0 r1 r2 r3 r4 r5
  have f0 := HR.out.free 0
  have f1 := HR.out.free 1
  have f2 := HR.out.free 2
  have f3 := HR.out.free 3
  have f4 := HR.out.free 4
  have f5 := HR.out.free 5
  go_enter Try.func39, Try.ntmps39
  go_wp2_with fail
  refine still_tail 12 (by kernel_rfl) (by kernel_rfl) ?_
  simp only [List.take_succ_cons, List.take_zero, List.drop_succ_cons, List.drop_zero]
  repeat still_step
  refine wpStill_nil ?_
  go_wp2_with fail
  refine ret_cell rfl w.heap.size 31 [.int .i64 s.craft, .int .i64 s.chan, .bool false, .bool false, .int .i64 (n % 256), .string d] rfl (Blk.new w [.int .i64 s.craft, .int .i64 s.chan, .bool false, .bool false, .int .i64 (n % 256), .string d] 31).drew Try.underlying31 rfl (by kernel_rfl) rfl ?_
  exact ⟨rfl, ((Below.refl w.heap.size w).alloc (Nat.le_refl _) _).drew⟩
end
section
theorem blk_setCells (b : Nat) (t : TypeId) : ∀ (vs pre old : List Value) (w : World), old.length = vs.length → Blk w b (pre ++ old) t → Blk (w.setCells b pre.length vs) b (pre ++ vs) t
  | [], pre, old, w, hl, h => by
    obtain rfl : old = [] := List.eq_nil_of_length_eq_zero (by simpa using hl)
    exact h
  | v :: vs, pre, [], w, hl, h => by simp at hl
  | v :: vs, pre, x :: old, w, hl, h => by
    have h2 := h.set pre.length v
    have e : (pre ++ x :: old).set pre.length v = (pre ++ [v]) ++ old := by simp
    rw [e] at h2
    have := blk_setCells b t vs (pre ++ [v]) old (w.setCell ⟨b, pre.length, none⟩ v) (by simpa using hl) h2
    rw [show (pre ++ [v]).length = pre.length + 1 by simp, List.append_assoc] at this
    exact this
theorem keep_setCells (b : Nat) (S : List Nat) : ∀ (vs : List Value) (o : Nat) (a w : World), Keep S a w → (b ∈ S ∨ a.heap.size ≤ b) → Keep S a (w.setCells b o vs)
  | [], _, _, _, h, _ => h
  | v :: vs, o, a, w, h, hb => keep_setCells b S vs (o + 1) a _ (h.setCell hb v) hb
/-- A value of many cells is stored in a block of the call's own. -/
theorem store_blk {ops : Array Oper} {rest : List Oper} {op : Oper} {a : Act} {w : World} {Q : Exit → Act → World → Prop} (hgd : op.guard = none) (ty : TypeId) (x y : Operand) (ho : op.op = .store ty x y)
    (b : Nat) (t : TypeId) (old news : List Value) (hx : a.eval x = .pointer (some ⟨b, 0, none⟩)) (hy : a.eval y = .agg news.toArray) (hB : Blk w b old t) (hl : old.length = news.length)
    (hi : (Try.prog.info? ty).map (·.size) = some news.length) (h1 : news.toArray.all (·.oneCell') = true)
    (h : ∀ w', Blk w' b news t → Keep [b] w w' → wpList Try.prog ops Q rest (a.put op.dst undef) w') : wpList Try.prog ops Q (op :: rest) a w := by
  refine wpList_store_mid hgd ty x y ho b 0 news.toArray hx hy (fun j hj => ⟨?_, ?_⟩) (by simpa using hi) h1 ?_
  · have hj : j < old.length := by simp at hj; omega
    rw [Nat.zero_add, hB.cell j, List.getElem?_eq_getElem hj]; rfl
  · rw [Nat.zero_add]; exact hB.free j
  · exact h _ (blk_setCells b t news [] old w hl hB) (keep_setCells b [b] news 0 w w (Keep.refl _ _) (.inl (by simp)))
/-- The same as a step of a region that draws its order. -/
theorem step_store_blk {ops : Array Oper} {op : Oper} {a : Act} {w : World} {K : Act → World → Prop} {Q : Exit → Act → World → Prop} {E : Prop} (hgd : op.guard = none) (ty : TypeId) (x y : Operand) (ho : op.op = .store ty x y)
    (b : Nat) (t : TypeId) (old news : List Value) (hx : a.eval x = .pointer (some ⟨b, 0, none⟩)) (hy : a.eval y = .agg news.toArray) (hB : Blk w b old t) (hl : old.length = news.length)
    (hi : (Try.prog.info? ty).map (·.size) = some news.length) (h1 : news.toArray.all (·.oneCell') = true)
    (h : ∀ w', Blk w' b news t → Keep [b] w w' → K (a.put op.dst undef) w') : if Region.wanted op (yielded ops a.tmps) = true then Oper.wp Try.prog op a w K Q else E := by
  have hw : Region.wanted op (yielded ops a.tmps) = true := by simp [Region.wanted, hgd]
  rw [if_pos hw]
  refine wp_store_mid ty x y ho b 0 news.toArray hx hy (fun j hj => ⟨?_, ?_⟩) (by simpa using hi) h1 ?_
  · have hj : j < old.length := by simp at hj; omega
    rw [Nat.zero_add, hB.cell j, List.getElem?_eq_getElem hj]; rfl
  · rw [Nat.zero_add]; exact hB.free j
  · exact h _ (blk_setCells b t news [] old w hl hB) (keep_setCells b [b] news 0 w w (Keep.refl _ _) (.inl (by simp)))
end
section
/-- Blocks that are new, and not the automaton's, have changed. -/
theorem Pt.far {w W W' : World} {g : Nat} {S S1 : List Nat} {s : Fs} {T : List Nat} (h : Pt w W g S S1 s) (k : Keep T W W') (hT : ∀ i ∈ T, w.heap.size ≤ i) (hS : ∀ i ∈ S1, i < W.heap.size → i ∉ T) : Pt w W' g S S1 s :=
  ⟨h.in_.keep k hS, h.keep.trans_new k (fun i hi => .inr (hT i hi)), h.new⟩
theorem FopIn.small {w : World} {g : Nat} {S : List Nat} {s : Fs} (h : FopIn w g S s) : ∃ S0, FopIn w g S0 s ∧ (∀ i ∈ S0, i < w.heap.size) ∧ ∀ i ∈ S0, i ∈ S := by
  obtain ⟨ve, vw, vs, vb, hF, hS⟩ := h
  exact ⟨own g ve vw vs vb, ⟨ve, vw, vs, vb, hF, fun _ h => h⟩, hF.lt, hS⟩
theorem FopTo.mono {w w' : World} {g : Nat} {S T : List Nat} {s : Fs} (h : FopTo w w' g S s) (hs : ∀ i ∈ S, i ∈ T) : FopTo w w' g T s := by
  obtain ⟨S1, h1, h2, h3⟩ := h
  exact ⟨S1, h1, h2.mono hs, fun k hk => (h3 k hk).imp (hs k) id⟩
theorem small_calls {f : FuncId} {args : Array Value} {w : World} {g : Nat} {S : List Nat} {s s' : Fs} {v : Value} (h : FopIn w g S s) (k : ∀ S0, (∀ i ∈ S0, i < w.heap.size) → FopIn w g S0 s → Calls Try.prog f args w fun e w' => e = .returned v ∧ FopTo w w' g S0 s') :
    Calls Try.prog f args w fun e w' => e = .returned v ∧ FopTo w w' g S s' := by
  obtain ⟨S0, h0, hl, hs⟩ := h.small
  exact (k S0 hl h0).mono fun e w' hh => ⟨hh.1, hh.2.mono hs⟩
theorem Pt.trans_far {w W W' : World} {g r : Nat} {S S1 : List Nat} {s s' : Fs} (h : Pt w W g S S1 s) (k : FopTo W W' g S1 s') (hr : r < W.heap.size) (hn : r ∉ S1) : ∃ S2, Pt w W' g S S2 s' ∧ r ∉ S2 ∧ ∀ i ∈ S2, i < W'.heap.size := by
  obtain ⟨S2, k1, k2, k3⟩ := k
  obtain ⟨S3, l1, l2, l3⟩ := k1.small
  refine ⟨S3, ⟨l1, h.keep.trans_new k2 h.new, fun x hx => ?_⟩, fun hm => ?_, l2⟩
  · rcases k3 x (l3 x hx) with e | e
    · exact h.new x e
    · exact .inr (Nat.le_trans h.keep.size e)
  · rcases k3 r (l3 r hm) with e | e
    · exact hn e
    · omega
theorem Blk.in_keep {W W' : World} {b : Nat} {vs : List Value} {t : TypeId} {g : Nat} {S : List Nat} {s' : Fs} (h : Blk W b vs t) (hb : b ∉ S) (k : FopTo W W' g S s') : Blk W' b vs t := by
  obtain ⟨_, _, k, _⟩ := k
  exact h.keep k hb
section
variable (s : Fs) (g : Nat) (S : List Nat) (w : World)
set_option maxHeartbeats 2000000 in
set_option maxRecDepth 100000 in
theorem Next_down (hSl : ∀ i ∈ S, i < w.heap.size) (hdue : s.due = false) (hsp : s.susp = false) (hbp : s.byp = []) (hs : s.service ≠ 2 ∨ s.held = true) (hw : s.window ≠ 0) (h : FopIn w g S s) :
    Calls Try.prog 13 #[.pointer (some ⟨g, 0, none⟩)] w fun e w' => e = .returned (.tuple #[.agg #[.int .i64 0, .int .i64 0, .bool false, .bool false, .int .i64 0, .string ⟨#[]⟩], .bool false]) ∧ FopTo w w' g S s := by
  have k1 : ¬ (0 : Int) < (s.byp.length : Int) := by simp [hbp]
  clear hbp
  have HQ := Lib.hid hs; clear hs
  have HW0 := Lib.hid (show (s.window == 0) = false by simpa using hw)
  have HT := Lib.hid ((Pt.refl h).keepB ((Below.refl w.heap.size w).alloc (Nat.le_refl _) (Obj.cells #[.int .i64 0, .int .i64 0, .bool false, .bool false, .int .i64 0, .string ⟨#[]⟩] 31)))
  have HR := Lib.hid (Blk.new w [.int .i64 0, .int .i64 0, .bool false, .bool false, .int .i64 0, .string ⟨#[]⟩] 31)
  have HSL := Lib.hid hSl
  clear h hw hSl
  go_enter Try.func13, Try.ntmps13
  go_upto_region 1 with fail
  refine gen_world (fun W => Pt w W g S S s ∧ Blk W w.heap.size [.int .i64 0, .int .i64 0, .bool false, .bool false, .int .i64 0, .string ⟨#[]⟩] 31) ⟨HT.out, HR.out⟩ ?_
  clear HT HR
  rintro w1 ⟨hT, hR⟩
  have HT := Lib.hid hT; have HR := Lib.hid hR; clear hT hR
  go_wp2_with fail
  refine (foNone_in s g S _ false HW0.out HT.out.in_).mono ?_
  rintro e _ ⟨rfl, rfl⟩
  obtain ⟨ve, vw, vs, vb, hF, hS⟩ := HT.out.in_
  have HF := Lib.hid hF; have HS := Lib.hid hS; have HB := Lib.hid hF.blk; clear hF hS
  have c16 := HB.out.cell 16
  have c6 := HB.out.cell 6
  have c18 := HB.out.cell 18
  have c19 := HB.out.cell 19
  simp only [Fs.cells, List.getElem?_cons_zero, List.getElem?_cons_succ] at c16 c6 c18 c19
  rw [hdue] at c16
  rw [hsp] at c19
  clear hdue hsp
  go_wp2_with fail
  refine (lenB_in s g S _ HT.out.in_).mono ?_
  rintro e _ ⟨rfl, rfl⟩
  by_cases h2 : s.service = 2
  · have hh : s.held = true := by
      rcases HQ.out with h | h
      · exact absurd h2 h
      · exact h
    have k2 : (s.service != 2) = false := by simpa using h2
    rw [hh] at c18
    clear hh h2
    go_wp2_with (refine store_blk rfl _ _ _ rfl w.heap.size 31 _ [.int .i64 0, .int .i64 0, .bool false, .bool false, .int .i64 0, .string ⟨#[]⟩] rfl rfl HR.out rfl (by kernel_rfl) (by kernel_rfl) ?_)
    intro w9 hR9 hK9
    go_wp2_with fail
    refine ret_cell_tmp rfl w.heap.size 31 [.int .i64 0, .int .i64 0, .bool false, .bool false, .int .i64 0, .string ⟨#[]⟩] rfl hR9 Try.underlying31 rfl (by kernel_rfl) rfl ?_
    exact ⟨rfl, (HT.out.far hK9 (fun i hi => by simp at hi; subst hi; exact Nat.le_refl _) (fun i hi _ h => by simp at h; have := HSL.out i hi; omega)).to⟩
  · have k2 : (s.service != 2) = true := by simpa using h2
    clear h2
    go_wp2_with (refine store_blk rfl _ _ _ rfl w.heap.size 31 _ [.int .i64 0, .int .i64 0, .bool false, .bool false, .int .i64 0, .string ⟨#[]⟩] rfl rfl HR.out rfl (by kernel_rfl) (by kernel_rfl) ?_)
    intro w9 hR9 hK9
    go_wp2_with fail
    refine ret_cell_tmp rfl w.heap.size 31 [.int .i64 0, .int .i64 0, .bool false, .bool false, .int .i64 0, .string ⟨#[]⟩] rfl hR9 Try.underlying31 rfl (by kernel_rfl) rfl ?_
    exact ⟨rfl, (HT.out.far hK9 (fun i hi => by simp at hi; subst hi; exact Nat.le_refl _) (fun i hi _ h => by simp at h; have := HSL.out i hi; omega)).to⟩
set_option maxHeartbeats 2000000 in
set_option maxRecDepth 100000 in
theorem Next_byp (d : ByteArray) (l : List ByteArray) (hSl : ∀ i ∈ S, i < w.heap.size) (hdue : s.due = false) (hsp : s.susp = false) (hbp : s.byp = d :: l) (hl : l.length ≤ 1000000) (hw : s.window ≠ 0) (h : FopIn w g S s) :
    Calls Try.prog 13 #[.pointer (some ⟨g, 0, none⟩)] w fun e w' => e = .returned (.tuple #[.agg #[.int .i64 s.craft, .int .i64 s.chan, .bool true, .bool false, .int .i64 0, .string d], .bool true]) ∧ FopTo w w' g S { s with byp := l } := by
  have k1 : (0 : Int) < (s.byp.length : Int) := by rw [hbp]; simp only [List.length_cons]; omega
  have HBP := Lib.hid hbp; clear hbp
  have HW0 := Lib.hid (show (s.window == 0) = false by simpa using hw)
  have HT := Lib.hid ((Pt.refl h).keepB ((Below.refl w.heap.size w).alloc (Nat.le_refl _) (Obj.cells #[.int .i64 0, .int .i64 0, .bool false, .bool false, .int .i64 0, .string ⟨#[]⟩] 31)))
  have HR := Lib.hid (Blk.new w [.int .i64 0, .int .i64 0, .bool false, .bool false, .int .i64 0, .string ⟨#[]⟩] 31)
  have HSL := Lib.hid hSl
  clear h hw hSl
  go_enter Try.func13, Try.ntmps13
  go_upto_region 1 with fail
  refine gen_world (fun W => Pt w W g S S s ∧ Blk W w.heap.size [.int .i64 0, .int .i64 0, .bool false, .bool false, .int .i64 0, .string ⟨#[]⟩] 31) ⟨HT.out, HR.out⟩ ?_
  clear HT HR
  rintro w1 ⟨hT, hR⟩
  have HT := Lib.hid hT; have HR := Lib.hid hR; clear hT hR
  go_wp2_with fail
  refine (foNone_in s g S _ false HW0.out HT.out.in_).mono ?_
  rintro e _ ⟨rfl, rfl⟩
  obtain ⟨ve, vw, vs, vb, hF, hS⟩ := HT.out.in_
  have HF := Lib.hid hF; have HS := Lib.hid hS; have HB := Lib.hid hF.blk; clear hF hS
  have c16 := HB.out.cell 16
  have c6 := HB.out.cell 6
  have c18 := HB.out.cell 18
  have c19 := HB.out.cell 19
  simp only [Fs.cells, List.getElem?_cons_zero, List.getElem?_cons_succ] at c16 c6 c18 c19
  rw [hdue] at c16
  rw [hsp] at c19
  clear hdue hsp
  go_wp2_with fail
  refine (lenB_in s g S _ HT.out.in_).mono ?_
  rintro e _ ⟨rfl, rfl⟩
  clear HF HS HB c16 c6 c18 c19
  go_wp2_with fail
  refine (popB_in d l s g S _ HBP.out hl HT.out.in_).mono ?_
  rintro e w2 ⟨rfl, hT⟩
  have hR1 := HR.out.lt
  replace HR := Lib.hid (HR.out.in_keep (fun h => absurd (HSL.out _ h) (Nat.lt_irrefl _)) hT)
  obtain ⟨S1, hT, hn1, hl1⟩ := HT.out.trans_far hT hR1 (fun h => absurd (HSL.out _ h) (Nat.lt_irrefl _))
  replace HT := Lib.hid hT; clear hT hR1
  have HN1 := Lib.hid hn1; have HL1 := Lib.hid hl1; clear hn1 hl1
  go_wp2_with fail
  refine (frame_in 0 d _ g S1 _ (by omega) (by omega) HT.out.in_).mono ?_
  rintro e w3 ⟨rfl, hL⟩
  replace HR := Lib.hid (HR.out.below hL HR.out.lt)
  replace HT := Lib.hid (HT.out.keepB hL)
  replace HL1 := Lib.hid (fun i hi => Nat.lt_of_lt_of_le (HL1.out i hi) hL.size)
  clear hL
  obtain ⟨b, hb⟩ : ∃ b, b = w3.heap.size := ⟨_, rfl⟩
  go_upto_region 11 with fail
  rw [← hb]
  refine gen_world (fun W => Pt w W g S S1 { s with byp := l } ∧ Blk W w.heap.size [.int .i64 0, .int .i64 0, .bool false, .bool false, .int .i64 0, .string ⟨#[]⟩] 31 ∧ Blk W b [.int .i64 s.craft, .int .i64 s.chan, .bool false, .bool false, .int .i64 (0 % 256), .string d] 31 ∧ w.heap.size < b) ⟨HT.out.keepB ((Below.refl _ _).alloc (Nat.le_refl _) _), HR.out.alloc _, by rw [hb]; exact Blk.new w3 [.int .i64 s.craft, .int .i64 s.chan, .bool false, .bool false, .int .i64 (0 % 256), .string d] 31, by rw [hb]; exact HR.out.lt⟩ ?_
  have HBS := Lib.hid (fun (h : b ∈ S1) => (by have := HL1.out b h; omega : False))
  clear HT HR hb HL1
  rintro w4 ⟨hT, hR, hF, hlt⟩
  have HT := Lib.hid hT; have HR := Lib.hid hR; have HF := Lib.hid hF; clear hT hR hF
  have x0 := HF.out.cell 0
  have x1 := HF.out.cell 1
  have x2 := HF.out.cell 2
  have x3 := HF.out.cell 3
  have x4 := HF.out.cell 4
  have x5 := HF.out.cell 5
  simp only [List.getElem?_cons_zero, List.getElem?_cons_succ] at x0 x1 x2 x3 x4 x5
  have y0 := HF.out.free 0
  have y1 := HF.out.free 1
  have y2 := HF.out.free 2
  have y3 := HF.out.free 3
  have y4 := HF.out.free 4
  have y5 := HF.out.free 5
  go_wp2_with (refine store_blk rfl _ _ _ rfl w.heap.size 31 _ [.int .i64 s.craft, .int .i64 s.chan, .bool true, .bool false, .int .i64 0, .string d] rfl rfl (HR.out.set_far (by simp; omega) _) rfl (by kernel_rfl) (by kernel_rfl) ?_)
  intro w9 hR9 hK9
  go_wp2_with fail
  refine ret_cell_tmp rfl w.heap.size 31 [.int .i64 s.craft, .int .i64 s.chan, .bool true, .bool false, .int .i64 0, .string d] rfl hR9 Try.underlying31 rfl (by kernel_rfl) rfl ?_
  refine ⟨rfl, ((HT.out.far ((Keep.refl [b] w4).setCell (p := ⟨b, 2, none⟩) (.inl (by simp)) _) (fun i hi => by simp at hi; omega) (fun i hi _ h => by simp at h; subst h; exact HBS.out hi)).far hK9 (fun i hi => by simp at hi; subst hi; exact Nat.le_refl _) (fun i hi _ h => by simp at h; subst h; exact HN1.out hi)).to⟩
end
end
end Go.Proofs.Ytbncejmohhejlaa
