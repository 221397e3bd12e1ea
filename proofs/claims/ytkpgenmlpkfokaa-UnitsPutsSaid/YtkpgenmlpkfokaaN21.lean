/- What is proved here: lists of gaps that a call has made itself; the walk of getGaps. -/
import Derived.Test.YtkpgenmlpkfokaaN20
import Derived.Deep.AppendLies
set_option linter.unusedVariables false
set_option linter.unusedSimpArgs false
namespace Go.Proofs.Ytkpgenmlpkfokaa
open Go.RowKit
def gcells (g : Gp) : List Value := [.int .i64 g.1, .int .i64 g.2]
/-- A row of gaps of the call's own. -/
def GRow (w : World) (base : Nat) (v : Value) (l : List Gp) : Prop := w.ownsRow base 47 2 v l.length (l.flatMap gcells)
theorem info_gap : (Try.prog.info? 47).map (fun i => (i.zero, i.size, i.bytes)) = some (some (.agg #[.int .i64 0, .int .i64 0]), 2, 16) := by kernel_rfl
theorem gcells_at : ∀ (l : List Gp) (i : Nat) (h : i < l.length), (l.flatMap gcells)[i * 2]? = some (.int .i64 (l[i]).1) ∧ (l.flatMap gcells)[i * 2 + 1]? = some (.int .i64 (l[i]).2)
  | [], i, h => by simp at h
  | g :: l, 0, _ => by simp [gcells]
  | g :: l, i + 1, h => by
    have := gcells_at l i (by simpa using h)
    rw [List.flatMap_cons, show (i + 1) * 2 = i * 2 + 2 by omega]
    constructor
    · rw [List.getElem?_append_right (by simp [gcells])]
      simpa [gcells] using this.1
    · rw [List.getElem?_append_right (by simp [gcells]), show i * 2 + 2 + 1 - (gcells g).length = i * 2 + 1 by simp [gcells]]
      simpa using this.2
theorem GRow.nil (w : World) (base : Nat) : GRow w base (.slice none 0 0) [] := ⟨rfl, .inl ⟨rfl, rfl⟩⟩
theorem GRow.at {w : World} {base : Nat} {v : Value} {l : List Gp} (h : GRow w base v l) : GapsAt w v l := by
  obtain ⟨hl, ⟨rfl, h0⟩ | ⟨g, cap, cur, rfl, hb, hg, hc, hm, hs, ht⟩⟩ := h
  · obtain rfl : l = [] := List.eq_nil_of_length_eq_zero h0
    exact GapsAt.nil w
  · refine ⟨some ⟨g, 0, none⟩, cap, rfl, fun i hi => ⟨g, 0, rfl, (Array.getElem?_eq_some_iff.1 hg).1, ?_⟩⟩
    obtain ⟨h1, h2⟩ := gcells_at l i hi
    have hcell : ∀ j u, j < l.length * 2 → (l.flatMap gcells)[j]? = some u → w.cell? ⟨g, j, none⟩ = some u := fun j u hj hu => by
      rw [cell_of_row w g j cur _ _ hg, ← Array.getElem?_toList]
      rw [← ht, List.getElem?_take_of_lt hj] at hu
      exact hu
    simp only [Nat.zero_add]
    exact ⟨hcell _ _ (by omega) h1, hcell _ _ (by omega) h2⟩
theorem GRow.keep {S : List Nat} {w w' : World} {base : Nat} {v : Value} {l : List Gp} (h : GRow w base v l) (k : Keep S w w') (hn : ∀ g, v.ownBlock = some g → g ∉ S) : GRow w' base v l := ownsRow_keep h k hn
theorem GRow.lt {w : World} {base : Nat} {v : Value} {l : List Gp} (h : GRow w base v l) : ∀ g, v.ownBlock = some g → base ≤ g ∧ g < w.heap.size := by
  intro k hk
  obtain ⟨hl, ⟨rfl, h0⟩ | ⟨g, cap, cur, rfl, hb, hg, hc, hm, hs, ht⟩⟩ := h
  · cases hk
  · obtain rfl : g = k := Option.some.inj hk
    exact ⟨hb, (Array.getElem?_eq_some_iff.1 hg).1⟩
theorem GRow.form {w : World} {base : Nat} {v : Value} {l : List Gp} (h : GRow w base v l) : ∃ a cap, v = .slice a l.length cap := by
  obtain ⟨hl, ⟨rfl, h0⟩ | ⟨g, cap, cur, rfl, _⟩⟩ := h
  · exact ⟨none, 0, by rw [h0]⟩
  · exact ⟨_, _, rfl⟩
theorem empty_no (s : ByteArray) (h : 1 ≤ s.size) : s.toList.isEmpty = false := by
  rw [toList_data]
  cases e : s.data.toList with
  | nil => rw [size_list, e] at h; simp at h
  | cons a l => rfl
theorem empty_yes (s : ByteArray) (h : s.size = 0) : s = ⟨#[]⟩ := by
  apply ByteArray.ext; exact Array.eq_empty_of_size_eq_zero h
/-- The gaps that bytes are. -/
def gapAt (l : List UInt8) (i : Nat) : Gp := ((numN ((l.drop (4 * i)).take 2) : Int), (numN ((l.drop (4 * i + 2)).take 2) : Int))
def gapsOf (l : List UInt8) (n : Nat) : List Gp := (List.range n).map (gapAt l)
theorem gapsOf_snoc (l : List UInt8) (n : Nat) : gapsOf l (n + 1) = gapsOf l n ++ [gapAt l n] := by simp [gapsOf, List.range_succ]
theorem gapsOf_length (l : List UInt8) (n : Nat) : (gapsOf l n).length = n := by simp [gapsOf]
theorem rdnumber_or (g : Nat) (b : ByteArray) (n : Nat) (w : World) (hB : Blk w g [.string b] 66) (hb : b.size ≤ 1000000) (hn4 : n ≤ 4) :
    Calls Try.prog 34 #[.pointer (some ⟨g, 0, none⟩), .int .i64 (n : Int)] w fun e w' => (∃ v, e = .returned v ∧ (v = .int .i64 (numN (b.data.toList.take n)) ∧ Keep [g] w w' ∧ Blk w' g [.string (b.extract n b.size)] 66 ∧ Hid (n ≤ b.size))) ∨ (e = .panicked shortP ∧ (w = w' ∧ b.size < n)) := by
  by_cases h : n ≤ b.size
  · exact (rdnumber_ok g b n w hB h hb hn4).mono fun e w' hh => .inl ⟨_, hh.1, rfl, hh.2.1, hh.2.2, Lib.hid h⟩
  · exact (rdnumber_short g b n w hB (by omega) hn4).mono fun e w' hh => .inr ⟨hh.1, hh.2, by omega⟩
/-- A call that may end in a panic of one kind. -/
theorem step_call_or {P : Program} {ops : Array Oper} {o : Oper} {a : Act} {w : World} {K : Act → World → Prop} {Q : Exit → Act → World → Prop} {E : Prop}
    (hg : o.guard = none) (f : FuncId) (ops' : Array Operand) (ts : Array TypeId) (hop : o.op = Op.call { callee := Callee.value (Operand.func f), args := ops', argTypes := ts }) (args : Array Value) (hrun : (execOp a.eval o).run P w = .ok (.enter f args) w) (R : Value → World → Prop)
    (ch : List PanicEntry) (S : World → Prop) (hc : Calls P f args w fun e w' => (∃ v, e = .returned v ∧ R v w') ∨ (e = .panicked ch ∧ S w')) (hP : ∀ w', S w' → Q (.panic ch) a w')
    (hK : ∀ v w', R v w' → K (a.put o.dst v) w') :
    if Region.wanted o (yielded ops a.tmps) = true then Oper.wp P o a w K Q else E := by
  have hw : Region.wanted o (yielded ops a.tmps) = true := by simp [Region.wanted, hg]
  rw [if_pos hw]
  unfold Oper.wp
  rw [hrun, Oper.upon_enter]
  refine hc.mono fun e w'' hh => ?_
  rcases hh with ⟨v, rfl, hR⟩ | ⟨rfl, hS⟩
  · exact hK _ _ hR
  · exact hP _ hS
theorem one2 (a b : Int) : ∀ u ∈ [Value.int .i64 a, Value.int .i64 b], u.oneCell' = true := by intro u hu; simp at hu; rcases hu with rfl | rfl <;> rfl
def goodGaps (b : ByteArray) : Bool := decide (1 ≤ b.size) && decide (numN (b.data.toList.take 1) ≤ 1) && decide ((b.size - 1) % 4 = 0)
def GapsPost (g h : Nat) (b : ByteArray) (u : Un) (w : World) (e : Ending) (w' : World) : Prop :=
  (goodGaps b = true ∧ e = .returned (.tuple #[]) ∧ Keep [g, h] w w' ∧ Blk w' g [.string ⟨#[]⟩] 66 ∧ ∃ gv, GRow w' w.heap.size gv (gapsOf (b.data.toList.drop 1) ((b.size - 1) / 4)) ∧
    Blk w' h (({ u with meta_ := numN (b.data.toList.take 1) == 1 } : Un).cells gv) 25) ∨
  (goodGaps b = false ∧ e = .panicked shortP ∧ Keep [g, h] w w' ∧ ∃ cs : List Value, cs.length = 11 ∧ Blk w' h cs 25)
set_option maxHeartbeats 8000000 in
set_option maxRecDepth 100000 in
theorem getGaps_any (g h : Nat) (b : ByteArray) (u : Un) (w : World) (hB : Blk w g [.string b] 66) (hU : Blk w h (u.cells (.slice none 0 0)) 25) (hgh : g ≠ h) (hb : b.size ≤ 1000) :
    Calls Try.prog 61 #[.pointer (some ⟨g, 0, none⟩), .pointer (some ⟨h, 0, none⟩)] w (GapsPost g h b u w) := by
  obtain ⟨ki, nu, nm, sz, su, of, da, wy, an, me, gs⟩ := u
  simp only [Un.cells] at hU
  have HB := Lib.hid hB; have HU := Lib.hid hU
  have HG := Lib.hid hgh
  have HK := Lib.hid (Keep.refl [g, h] w)
  have hgl := hB.lt
  have hhl := hU.lt
  clear hB hU hgh
  by_cases h1 : b.size < 1
  · have HF := Lib.hid (show goodGaps b = false by rw [goodGaps, decide_eq_false (by omega : ¬ 1 ≤ b.size)]; rfl)
    go_enter Try.func61, Try.ntmps61
    go_wp2_with fail
    refine (rdnumber_short g b 1 _ HB.out (by omega) (by omega)).mono ?_
    rintro e _ ⟨rfl, rfl⟩
    go_wp2_with fail
    exact ⟨rfl, .inr ⟨HF.out, rfl, HK.out, _, rfl, HU.out⟩⟩
  obtain ⟨f, hf⟩ : ∃ f, f = numN (b.data.toList.take 1) := ⟨_, rfl⟩
  obtain ⟨b1, hb1⟩ : ∃ x, x = b.extract 1 b.size := ⟨_, rfl⟩
  have s1 : b1.size = b.size - 1 := by rw [hb1, ext_size]
  have l1 : b1.data.toList = b.data.toList.drop 1 := by rw [hb1, ext_list]
  have t1 : b1.size ≤ 1000 := by omega
  have S1 := Lib.hid s1; have L1 := Lib.hid l1; have HF := Lib.hid hf; have HB1 := Lib.hid hb1
  clear s1 l1 hb1
  by_cases h2 : f ≤ 1
  case neg =>
    have HBad := Lib.hid (show goodGaps b = false by rw [goodGaps, ← hf, decide_eq_false h2]; simp)
    clear hf
    go_enter Try.func61, Try.ntmps61
    go_wp2_with fail
    refine (rdnumber_ok g b 1 _ HB.out (by omega) (by omega) (by omega)).mono ?_
    rintro e w1 ⟨rfl, hK, hB⟩
    replace HK := Lib.hid (HK.out.trans (hK.mono (by simp)))
    replace HU := Lib.hid (HU.out.keep hK (by simp; exact fun e => HG.out e.symm))
    rw [← HF.out]
    clear hK hB
    go_wp2_with fail
    exact ⟨rfl, .inr ⟨HBad.out, rfl, HK.out, _, rfl, HU.out⟩⟩
  obtain ⟨m, hm⟩ : ∃ m : Bool, m = (f == 1) := ⟨_, rfl⟩
  have hfm : (((f : Nat) : Int) == 1) = m := by rw [hm, Bool.eq_iff_iff]; simp; omega
  have HM := Lib.hid hm
  have HGD := Lib.hid (show goodGaps b = decide (b1.size % 4 = 0) by rw [goodGaps, ← hf, decide_eq_true h2, decide_eq_true (by omega : 1 ≤ b.size), S1.out]; simp)
  clear hm hf
  go_enter Try.func61, Try.ntmps61
  go_wp2_with fail
  refine (rdnumber_ok g b 1 _ HB.out (by omega) (by omega) (by omega)).mono ?_
  rintro e w1 ⟨rfl, hK, hB⟩
  replace HK := Lib.hid (HK.out.trans (hK.mono (by simp)))
  replace HU := Lib.hid (HU.out.keep hK (by simp; exact fun e => HG.out e.symm))
  replace HB := Lib.hid hB
  rw [← HF.out]
  rw [← HB1.out] at HB
  clear hK hB
  have f9 := HU.out.free 9
  have c9 := HU.out.cell 9
  simp only [List.getElem?_cons_zero, List.getElem?_cons_succ] at c9
  go_wp2_with fail
  clear f9 c9
  replace HK := Lib.hid (HK.out.setCell (p := ⟨h, 9, none⟩) (.inl (by simp)) (.bool m))
  replace HB := Lib.hid (HB.out.set_far (p := ⟨h, 9, none⟩) (by simpa using HG.out) (.bool m))
  replace HU := Lib.hid (HU.out.set 9 (.bool m))
  simp only [List.set_cons_zero, List.set_cons_succ] at HU
  go_loopg [5] b1.size (fun r fv wr => ∃ (k : Nat) (c : ByteArray), 4 * k ≤ b1.size ∧ r = b1.size - 4 * k ∧ Hid (c = b1.extract (4 * k) b1.size) ∧ Keep [g, h] w wr ∧ Blk wr g [.string c] 66 ∧ ∃ gv, GRow wr w.heap.size gv (gapsOf b1.data.toList k) ∧ Blk wr h [.int .i64 ki, .int .i64 nu, .string nm, .int .i64 sz, .int .u32 su, .int .i64 of, .string da, .int .i64 wy, .int .i64 an, .bool m, gv] 25)
  case atStart => exact ⟨0, b1, by omega, by omega, Lib.hid (by apply ByteArray.ext; apply Array.ext'; rw [ext_list]; simp), HK.out, HB.out, _, GRow.nil _ _, HU.out⟩
  case round =>
    clear HK HB HU
    obtain ⟨k, c, hk, hr, hc, hK, hB, gv, hR, hU⟩ := hrel
    have HK := Lib.hid hK; have HB := Lib.hid hB; have HU := Lib.hid hU; have HR := Lib.hid hR
    have HR0 := Lib.hid hr
    have hcs : c.size = b1.size - 4 * k := by rw [hc.out, ext_size]
    have hcl : c.data.toList = b1.data.toList.drop (4 * k) := by rw [hc.out, ext_list]
    have HCS := Lib.hid hcs; have HCL := Lib.hid hcl
    clear hK hB hU hR hr
    have r0 := HB.out.cell 0
    simp only [List.getElem?_cons_zero] at r0
    by_cases hz : c.size = 0
    · have hk4 : b1.size = 4 * k := by omega
      have HK4 := Lib.hid hk4
      have HGood := Lib.hid (show goodGaps b = true by rw [HGD.out]; exact decide_eq_true (by omega))
      have hce := empty_yes c hz
      subst hce
      clear hcs hcl hz hk4
      go_wp2_with fail
      go_end0
      refine .inl ⟨HGood.out, rfl, HK.out, HB.out, gv, ?_, ?_⟩
      · have e1 : (b.size - 1) / 4 = k := by rw [← S1.out, HK4.out]; omega
        rw [e1, ← L1.out]
        exact HR.out
      · have e2 : (numN (b.data.toList.take 1) == 1) = m := by rw [← HF.out, ← HM.out]
        simp only [Un.cells, e2]
        exact HU.out
    · have he := empty_no c (by omega)
      by_cases h3 : c.size < 2
      · have HBad := Lib.hid (show goodGaps b = false by rw [HGD.out]; exact decide_eq_false (by omega))
        clear hcs hcl
        go_wp2_with fail
        refine (rdnumber_short g c 2 _ HB.out (by omega) (by omega)).mono ?_
        rintro e _ ⟨rfl, rfl⟩
        go_wp2_with fail
        exact ⟨rfl, .inr ⟨HBad.out, rfl, HK.out, _, rfl, HU.out⟩⟩
      obtain ⟨n1, hn1⟩ : ∃ n, n = numN (c.data.toList.take 2) := ⟨_, rfl⟩
      obtain ⟨c1, hc1⟩ : ∃ x, x = c.extract 2 c.size := ⟨_, rfl⟩
      have s2 : c1.size = c.size - 2 := by rw [hc1, ext_size]
      have l2 : c1.data.toList = c.data.toList.drop 2 := by rw [hc1, ext_list]
      have HN1 := Lib.hid hn1; have HC1 := Lib.hid hc1; have S2 := Lib.hid s2; have L2 := Lib.hid l2
      have hrb := (fun g' hg' => (HR.out.lt g' hg'))
      have hngv : ∀ g', gv.ownBlock = some g' → g' ≠ g := fun g' hg' => by have := (HR.out.lt g' hg').1; omega
      have hngh : ∀ g', gv.ownBlock = some g' → g' ≠ h := fun g' hg' => by have := (HR.out.lt g' hg').1; omega
      have HNG := Lib.hid hngv; have HNH := Lib.hid hngh
      have hcsz : c.size ≤ 1000 := by omega
      have hc1z : c1.size ≤ 1000 := by omega
      have h3' : 2 ≤ c.size := by omega
      clear hrb hngv hngh hn1 hc1 l2
      obtain ⟨n2, hn2⟩ : ∃ n, n = numN (c1.data.toList.take 2) := ⟨_, rfl⟩
      obtain ⟨c2, hc2⟩ : ∃ x, x = c1.extract 2 c1.size := ⟨_, rfl⟩
      have HN2 := Lib.hid hn2; have HC2 := Lib.hid hc2
      have HBad := Lib.hid (fun h4 : c1.size < 2 => show goodGaps b = false by rw [HGD.out]; exact decide_eq_false (by omega))
      have HLK := Lib.hid (fun h4 : 2 ≤ c1.size => show 4 * k + 4 ≤ b1.size by omega)
      have hk1000 : k ≤ 250 := by omega
      clear hn2 hc2 hcs hcl s2
      go_wp2_with fail
      refine (rdnumber_ok g c 2 _ HB.out h3' (by omega) (by omega)).mono ?_
      rintro e w2 ⟨rfl, hK, hB⟩
      replace HK := Lib.hid (HK.out.trans (hK.mono (by simp)))
      replace HU := Lib.hid (HU.out.keep hK (by simp; exact fun e => HG.out e.symm))
      replace HR := Lib.hid (HR.out.keep hK (fun g' hg' => by simpa using HNG.out g' hg'))
      replace HB := Lib.hid hB
      rw [← HN1.out]
      rw [← HC1.out] at HB
      clear hK hB r0 he
      go_upto_region 6 with fail
      obtain ⟨i0, hi, hz0, hz1, hz2⟩ := info_parts info_gap
      have c10 := HU.out.cell 10
      simp only [List.getElem?_cons_zero, List.getElem?_cons_succ] at c10
      go_region_law (first | (refine step_call_or rfl 34 _ _ rfl #[.pointer (some ⟨g, 0, none⟩), .int .i64 2] (by kernel_rfl) _ shortP _ (rdnumber_or g c1 2 _ HB.out.drew (by omega) (by omega)) (fun W hS => ⟨rfl, .inr ⟨HBad.out hS.2, rfl, hS.1 ▸ HK.out.drew, _, rfl, hS.1 ▸ HU.out.drew⟩⟩) ?_; rintro v5 w5 ⟨rfl, hK5, hB5, h5⟩; have hU5 := HU.out.drew.keep hK5 (by simp; exact fun e => HG.out e.symm); have y10 := hU5.cell 10; have z10 := hU5.free 10; simp only [List.getElem?_cons_zero, List.getElem?_cons_succ] at y10; rw [← HN2.out]; have hR5 := (show GRow w2.drew w.heap.size gv _ from HR.out).keep hK5 (fun g' hg' => by simpa using HNG.out g' hg'); have hz5 := hU5.lt) | (refine step_append_lies _ rfl _ _ 23 rfl w.heap.size 47 i0 (.agg #[.int .i64 0, .int .i64 0]) 2 16 Try.underlying23 hi hz0 hz1 hz2 rfl (by omega) gv (gapsOf b1.data.toList k).length ((gapsOf b1.data.toList k).flatMap gcells) rfl (hR5.keep ((Keep.refl [] w5).alloc (Obj.cells #[.int .i64 (n1 : Int), .int .i64 (n2 : Int)] 47)) (fun _ _ => by simp)) ⟨w5.heap.size, 0, none⟩ 1 1 [.int .i64 (n1 : Int), .int .i64 (n2 : Int)] rfl rfl (World.news_of_block (Blk.new w5 [.int .i64 (n1 : Int), .int .i64 (n2 : Int)] 47)) (one2 n1 n2) (by omega) (by rw [gapsOf_length]; unfold maxLen; omega) (by rw [gapsOf_length]; omega) (by have := (show w2.heap.size ≤ w5.heap.size from hK5.size); have := HK.out.size; simp; omega) (w5.heap.size + 1) (by simp) (fun g6 cap6 w6 q2 q3 q4 q5 => ?_); have hK6 : Keep gv.ownBlock.toList w5 w6 := ((Keep.refl _ w5).alloc _).trans (Keep.ofGrownV q3 (fun x hx => by rw [hx]; simp)); have hU6 := hU5.keep hK6 (fun hi => by rw [Option.mem_toList] at hi; exact HNH.out h hi rfl); have y10 := hU6.cell 10; have z10 := hU6.free 10; simp only [List.getElem?_cons_zero, List.getElem?_cons_succ] at y10))
      all_goals
        have h5' := h5.out
        have hlk := HLK.out h5'
        have HR7 := Lib.hid (show GRow w6 w.heap.size (.slice (some ⟨g6, 0, none⟩) ((gapsOf b1.data.toList k).length + 1) cap6) (gapsOf b1.data.toList (k + 1)) by
          have e1 : gapAt b1.data.toList k = ((n1 : Int), (n2 : Int)) := by
            rw [gapAt, HN1.out, HN2.out, L2.out, HCL.out, List.drop_drop]
          have e2 : gapsOf b1.data.toList (k + 1) = gapsOf b1.data.toList k ++ [((n1 : Int), (n2 : Int))] := by rw [gapsOf_snoc, e1]
          unfold GRow
          rw [e2, List.length_append, List.flatMap_append]
          exact q2)
        have HC7 := Lib.hid (show c2 = b1.extract (4 * (k + 1)) b1.size by
          apply ByteArray.ext; apply Array.ext'
          rw [HC2.out, ext_list, L2.out, HCL.out, ext_list, List.drop_drop, List.drop_drop]
          congr 1)
        have HB7 := Lib.hid hB5
        rw [← HC2.out] at HB7
        have hgn : g ∉ gv.ownBlock.toList := fun hi => by rw [Option.mem_toList] at hi; exact HNG.out g hi rfl
        have HB8 := Lib.hid (HB7.out.keep hK6 hgn)
        have HK8 := Lib.hid (((HK.out.drew).trans (hK5.mono (by simp))).trans_new hK6 (fun i hi => .inr (by rw [Option.mem_toList] at hi; exact (HR.out.lt i hi).1)))
        have HU8 := Lib.hid hU6
        have hg6 : w.heap.size ≤ g6 := (HR7.out.lt g6 rfl).1
        have HG6 := Lib.hid (show h ≠ g6 by omega)
        clear q2 q3 q4 q5 hK6 hU6 hU5 hB5 hK5 hR5 hgn c10
        go_wp2_with fail
        go_roundg (b1.size - 4 * (k + 1))
        case measure => have := HR0.out; omega
        case rel =>
          refine ⟨k + 1, c2, by omega, rfl, HC7, HK8.out.setCell (.inl (by simp)) _, HB8.out.set_far (by simpa using HG.out) _, _, HR7.out.keep ((Keep.refl [h] w6).setCell (.inl (by simp)) _) (fun g' hg' => ?_), HU8.out.set 10 _⟩
          have e9 : g6 = g' := Option.some.inj hg'
          simp; omega
end Go.Proofs.Ytkpgenmlpkfokaa
