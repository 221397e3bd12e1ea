/- What is proved here: what the automaton on the ground does with a control word. -/
import Derived.Test.YtbncejmohhejlaaFo13
import Derived.Test.YtbncejmohhejlaaF6
import Derived.Test.YtbncejmohhejlaaF10
set_option linter.unusedVariables false
set_option linter.unusedSimpArgs false
namespace Go.Proofs.Ytbncejmohhejlaa
open Go.RowKit
section
def fnV (f : FuncId) (g : Nat) : Value := .func (.func f) #[.pointer (some ⟨g, 0, none⟩)] #[]
def wordMap (g : Nat) : Array MapEntry := #[{ key := .int .i64 1, val := fnV 45 g, born := 0 }, { key := .int .i64 2, val := fnV 46 g, born := 1 }]
theorem fmap_made (w : World) (b : Nat) (hg : w.heap.size = b) : (Instr.makeMap 102 none).run Try.prog w = .ok (.map (some b)) (w.alloc (.map #[] 0)) := by rw [← hg]; exact run_makeMap_plain w _
theorem fmap_ins (w : World) (es : Array MapEntry) (clock : Nat) (k : Int) (val : Value) (hf : Instr.findNow (.int .i64) (.int .i64 k) es.toList 0 = some none) (b : Nat) (hg : w.heap.size = b) :
   (Instr.mapUpdate 102 (.map (some b)) (.int .i64 k) val).run Try.prog (w.alloc (.map es clock)) = .ok () (w.alloc (.map (es.push { key := .int .i64 k, val := val, born := clock }) (clock + 1))) := by
  subst hg
  have hb : (w.alloc (.map es clock)).heap[w.heap.size]? = some (.map es clock) := heap_alloc_new w _
  have hc : (Instr.checkKey false 10000 3 (.int .i64 k)).run Try.prog (w.alloc (.map es clock)) = .ok () (w.alloc (.map es clock)) := MapKept.run_checkKey (k := .int .i64 k) Try.underlying3 (by simp [MapKept.IsKey]) false 9999
  have hp : ∀ (h : Array Obj) (x y : Obj), (h.push x).setIfInBounds h.size y = h.push y := by
    intro h x y
    apply Array.toList_inj.1
    simp
  simp [Instr.mapUpdate, run_underlying Try.underlying102, MapKept.run_getObj_map hb, hc, MapKept.run_findKey Try.underlying3 hf, MapKept.run_setObj_map _ hb, Result.andThen]
  show ({ w with heap := (w.heap.push _).setIfInBounds w.heap.size _ } : World) = { w with heap := w.heap.push _ }
  rw [hp]
theorem fmap_look (g : Nat) (W : World) (b : Nat) (k : Int) (f : FuncId) (i : Nat) (hb : W.heap[b]? = some (.map (wordMap g) 2)) (hf : Instr.findNow (.int .i64) (.int .i64 k) (wordMap g).toList 0 = some (some (i, fnV f g))) :
    (Instr.lookup 102 (.map (some b)) (.int .i64 k) true).run Try.prog W = .ok (.tuple #[fnV f g, .bool true]) W := by
  have hc : (Instr.checkKey false 10000 3 (.int .i64 k)).run Try.prog W = .ok () W := MapKept.run_checkKey (k := .int .i64 k) Try.underlying3 (by simp [MapKept.IsKey]) false 9999
  have he : (wordMap g).isEmpty = false := rfl
  simp [Instr.lookup, run_underlying Try.underlying102, MapKept.run_getObj_map hb, he, hc, MapKept.run_findKey Try.underlying3 hf, Result.andThen]
theorem Pt.thenPt {w W W' : World} {g : Nat} {S S1 S2 : List Nat} {s s' : Fs} (h : Pt w W g S S1 s) (k : Pt W W' g S1 S2 s') : Pt w W' g S S2 s' :=
  ⟨k.in_, h.keep.trans_new k.keep h.new, fun x hx => by
    rcases k.new x hx with e | e
    · exact h.new x e
    · exact .inr (Nat.le_trans h.keep.size e)⟩
theorem Pt.thenGiven {w W W' : World} {g : Nat} {S S1 S2 : List Nat} {s : Fs} {l : List Ev} {v : Value} (h : Pt w W g S S1 s) (k : Given W W' S1 S2 l v) : Given w W' S S2 l v :=
  ⟨k.1, fun x hx => ⟨(k.2 x hx).1, by
    rcases (k.2 x hx).2 with e | e
    · exact h.new x e
    · exact .inr (Nat.le_trans h.keep.size e)⟩⟩
section
variable (s : Fs) (g : Nat) (S : List Nat) (w : World)
set_option maxHeartbeats 8000000 in
set_option maxRecDepth 100000 in
theorem Word_ready (n : Nat) (xc xb xn : Int) (xw xr : Bool) (kn : Nat) (hn : n < 4294967296) (hv : readV n = .tuple #[.agg #[.int .i64 xc, .bool false, .bool xw, .bool xr, .int .i64 xb, .int .i64 xn], .int .i64 0]) (hc : xc = s.chan) (hs : s.service = 2) (he : s.events.length ≤ 1000) (hsl : s.sent.length ≤ 127) (hb0 : 0 ≤ s.base) (hb1 : s.base ≤ 255) (hn0 : 0 ≤ xn) (hn1 : xn ≤ 255) (hkc : (xn - s.base) % 256 = (kn : Int)) (hk : kn ≤ s.sent.length) (hw : s.window ≠ 0) (hSl : ∀ i ∈ S, i < w.heap.size) (h : FopIn w g S s) :
    Calls Try.prog 15 #[.pointer (some ⟨g, 0, none⟩), .int .u32 n] w fun e w' => ∃ v S', e = .returned (.tuple #[v, .int .i64 0]) ∧ Pt w w' g S S' { wordF s xn xw xr kn with events := [] } ∧ Given w w' S S' (wordF s xn xw xr kn).events v := by
  have hcc : (xc != s.chan) = false := by simp [hc]
  have HPO := Lib.hid (fun S1 W (h1 : ∀ i ∈ S1, i < W.heap.size) (h2 : FopIn W g S1 s) => proceed_ok s g S1 W xc xb xn xw xr kn he hsl hb0 hb1 hn0 hn1 hkc hk h1 h2)
  clear he hsl hb0 hb1 hn0 hn1 hkc hk hc
  have HN := Lib.hid (foNone_in s g S w false (by simpa using hw) h)
  have HT := Lib.hid (Pt.refl h)
  have HRD := Lib.hid (ReadWord_any n w hn)
  rw [hv] at HRD
  have HSL := Lib.hid hSl
  clear h hw hv hSl
  go_enter Try.func15, Try.ntmps15
  go_wp2_with fail
  refine (HN.out).mono ?_
  rintro e _ ⟨rfl, rfl⟩
  go_wp2_with fail
  refine HRD.out.mono ?_
  rintro e w1 ⟨rfl, hL⟩
  replace HT := Lib.hid (HT.out.keepB hL)
  clear hL HRD HN
  have hlw : w.heap.size ≤ w1.heap.size := HT.out.keep.size
  obtain ⟨r, hr⟩ : ∃ r, r = w1.heap.size := ⟨_, rfl⟩
  go_upto_region 6 with fail
  rw [← hr]
  refine gen_world (fun W => Pt w W g S S s ∧ Blk W r [.int .i64 xc, .bool false, .bool xw, .bool xr, .int .i64 xb, .int .i64 xn] 35 ∧ w.heap.size ≤ r) ⟨HT.out.keepB ((Below.refl _ _).alloc (Nat.le_refl _) _), by rw [hr]; exact Blk.new w1 [.int .i64 xc, .bool false, .bool xw, .bool xr, .int .i64 xb, .int .i64 xn] 35, by omega⟩ ?_
  clear HT hr hlw
  rintro w2 ⟨hT, hX, hwr⟩
  have HT := Lib.hid hT; have HX := Lib.hid hX; clear hT hX
  obtain ⟨ve, vw, vs, vb, hF, hS⟩ := HT.out.in_
  have HF := Lib.hid hF; have HS := Lib.hid hS; have HB := Lib.hid hF.blk; clear hF hS
  have c2 := HB.out.cell 2
  simp only [Fs.cells, List.getElem?_cons_zero, List.getElem?_cons_succ] at c2
  have x0 := HX.out.cell 0
  have x1 := HX.out.cell 1
  have x2 := HX.out.cell 2
  have x3 := HX.out.cell 3
  have x4 := HX.out.cell 4
  have x5 := HX.out.cell 5
  simp only [List.getElem?_cons_zero, List.getElem?_cons_succ] at x0 x1 x2 x3 x4 x5
  go_quiet (fail)
  clear c2 x0 x1 x2 x3 x4 x5
  refine post_any (fun W => Pt w W g S S s ∧ Blk W r [.int .i64 xc, .bool false, .bool xw, .bool xr, .int .i64 xb, .int .i64 xn] 35) ⟨HT.out.drewN _, HX.out.drewN _⟩ ?_
  clear HT HX HF HS HB
  rintro w3 ⟨hT, hX⟩
  have HT := Lib.hid hT; have HX := Lib.hid hX; clear hT hX
  obtain ⟨ve, vw, vs, vb, hF, hS⟩ := HT.out.in_
  have HF := Lib.hid hF; have HS := Lib.hid hS; have HB := Lib.hid hF.blk; clear hF hS
  have c6 := HB.out.cell 6
  simp only [Fs.cells, List.getElem?_cons_zero, List.getElem?_cons_succ] at c6
  rw [hs] at c6
  obtain ⟨b, hb⟩ : ∃ b, w3.heap.size = b := ⟨_, rfl⟩
  have m0 := fmap_made w3 b hb
  have m1 := fmap_ins w3 #[] 0 1 (fnV 45 g) rfl b hb
  have m2 := fmap_ins w3 #[{ key := .int .i64 1, val := fnV 45 g, born := 0 }] 1 2 (fnV 46 g) (by kernel_rfl) b hb
  have m3 := fmap_look g (w3.alloc (.map (wordMap g) 2)) b 2 (46) 1 (by rw [← hb]; exact heap_alloc_new w3 _) (by kernel_rfl)
  have x6 := (HB.out.alloc (.map (wordMap g) 2)).cell 6
  simp only [Fs.cells, List.getElem?_cons_zero, List.getElem?_cons_succ] at x6
  rw [hs] at x6
  simp only [List.push_toArray, List.cons_append, List.nil_append, Nat.reduceAdd, fnV, wordMap] at m1 m2 m3 x6
  have hX2 := HX.out.alloc (.map (wordMap g) 2)
  have y0 := hX2.cell 0; have y1 := hX2.cell 1; have y2 := hX2.cell 2; have y3 := hX2.cell 3; have y4 := hX2.cell 4; have y5 := hX2.cell 5
  simp only [List.getElem?_cons_zero, List.getElem?_cons_succ, fnV, wordMap] at y0 y1 y2 y3 y4 y5
  have HT4 := Lib.hid (HT.out.keepB ((Below.refl _ _).alloc (Nat.le_refl _) (.map (wordMap g) 2)))
  have hsl3 : ∀ i ∈ S, i < (w3.alloc (.map (wordMap g) 2)).heap.size := fun i hi => by have := HSL.out i hi; have := HT.out.keep.size; simp; omega
  have HS4 := Lib.hid hsl3
  clear hX2 hsl3
  go_wp2_with fail
  refine (HPO.out S _ HS4.out HT4.out.in_).mono ?_
  rintro e w4 ⟨rfl, hT⟩
  obtain ⟨S1, hT⟩ := HT4.out.trans hT
  replace HT := Lib.hid hT
  clear hT HT4 HS4 y0 y1 y2 y3 y4 y5 m0 m1 m2 m3 x6 c6 HF HS HB HX hb
  go_wp2_with fail
  refine (reported_in _ g _ _ HT.out.in_).mono ?_
  rintro e w5 ⟨v, S2, rfl, hP, hG⟩
  have HP := Lib.hid hP; have HG := Lib.hid hG; clear hP hG
  go_wp2_with fail
  go_ret2
  exact ⟨_, S2, rfl, HT.out.thenPt HP.out, HT.out.thenGiven HG.out⟩
set_option maxHeartbeats 8000000 in
set_option maxRecDepth 100000 in
theorem Word_fa (n : Nat) (xc xb xn : Int) (xw xr : Bool) (hn : n < 4294967296) (hv : readV n = .tuple #[.agg #[.int .i64 xc, .bool false, .bool xw, .bool xr, .int .i64 xb, .int .i64 xn], .int .i64 0]) (hc : xc = s.chan) (hs : s.service = 2) (he : s.events.length ≤ 1000000) (hb0 : 0 ≤ s.base) (hb1 : s.base ≤ 255) (hn0 : 0 ≤ xn) (hn1 : xn ≤ 255) (hk : (s.sent.length : Int) < (xn - s.base) % 256) (hw : s.window ≠ 0) (hSl : ∀ i ∈ S, i < w.heap.size) (h : FopIn w g S s) :
    Calls Try.prog 15 #[.pointer (some ⟨g, 0, none⟩), .int .u32 n] w fun e w' => ∃ v S', e = .returned (.tuple #[v, .int .i64 0]) ∧ Pt w w' g S S' { alertF s 3 with events := [] } ∧ Given w w' S S' (alertF s 3).events v := by
  have hcc : (xc != s.chan) = false := by simp [hc]
  have HPO := Lib.hid (fun S1 W (h1 : ∀ i ∈ S1, i < W.heap.size) (h2 : FopIn W g S1 s) => proceed_bad s g S1 W xc xb xn xw xr he hb0 hb1 hn0 hn1 hk h1 h2)
  clear he hb0 hb1 hn0 hn1 hk hc
  have HN := Lib.hid (foNone_in s g S w false (by simpa using hw) h)
  have HT := Lib.hid (Pt.refl h)
  have HRD := Lib.hid (ReadWord_any n w hn)
  rw [hv] at HRD
  have HSL := Lib.hid hSl
  clear h hw hv hSl
  go_enter Try.func15, Try.ntmps15
  go_wp2_with fail
  refine (HN.out).mono ?_
  rintro e _ ⟨rfl, rfl⟩
  go_wp2_with fail
  refine HRD.out.mono ?_
  rintro e w1 ⟨rfl, hL⟩
  replace HT := Lib.hid (HT.out.keepB hL)
  clear hL HRD HN
  have hlw : w.heap.size ≤ w1.heap.size := HT.out.keep.size
  obtain ⟨r, hr⟩ : ∃ r, r = w1.heap.size := ⟨_, rfl⟩
  go_upto_region 6 with fail
  rw [← hr]
  refine gen_world (fun W => Pt w W g S S s ∧ Blk W r [.int .i64 xc, .bool false, .bool xw, .bool xr, .int .i64 xb, .int .i64 xn] 35 ∧ w.heap.size ≤ r) ⟨HT.out.keepB ((Below.refl _ _).alloc (Nat.le_refl _) _), by rw [hr]; exact Blk.new w1 [.int .i64 xc, .bool false, .bool xw, .bool xr, .int .i64 xb, .int .i64 xn] 35, by omega⟩ ?_
  clear HT hr hlw
  rintro w2 ⟨hT, hX, hwr⟩
  have HT := Lib.hid hT; have HX := Lib.hid hX; clear hT hX
  obtain ⟨ve, vw, vs, vb, hF, hS⟩ := HT.out.in_
  have HF := Lib.hid hF; have HS := Lib.hid hS; have HB := Lib.hid hF.blk; clear hF hS
  have c2 := HB.out.cell 2
  simp only [Fs.cells, List.getElem?_cons_zero, List.getElem?_cons_succ] at c2
  have x0 := HX.out.cell 0
  have x1 := HX.out.cell 1
  have x2 := HX.out.cell 2
  have x3 := HX.out.cell 3
  have x4 := HX.out.cell 4
  have x5 := HX.out.cell 5
  simp only [List.getElem?_cons_zero, List.getElem?_cons_succ] at x0 x1 x2 x3 x4 x5
  go_quiet (fail)
  clear c2 x0 x1 x2 x3 x4 x5
  refine post_any (fun W => Pt w W g S S s ∧ Blk W r [.int .i64 xc, .bool false, .bool xw, .bool xr, .int .i64 xb, .int .i64 xn] 35) ⟨HT.out.drewN _, HX.out.drewN _⟩ ?_
  clear HT HX HF HS HB
  rintro w3 ⟨hT, hX⟩
  have HT := Lib.hid hT; have HX := Lib.hid hX; clear hT hX
  obtain ⟨ve, vw, vs, vb, hF, hS⟩ := HT.out.in_
  have HF := Lib.hid hF; have HS := Lib.hid hS; have HB := Lib.hid hF.blk; clear hF hS
  have c6 := HB.out.cell 6
  simp only [Fs.cells, List.getElem?_cons_zero, List.getElem?_cons_succ] at c6
  rw [hs] at c6
  obtain ⟨b, hb⟩ : ∃ b, w3.heap.size = b := ⟨_, rfl⟩
  have m0 := fmap_made w3 b hb
  have m1 := fmap_ins w3 #[] 0 1 (fnV 45 g) rfl b hb
  have m2 := fmap_ins w3 #[{ key := .int .i64 1, val := fnV 45 g, born := 0 }] 1 2 (fnV 46 g) (by kernel_rfl) b hb
  have m3 := fmap_look g (w3.alloc (.map (wordMap g) 2)) b 2 (46) 1 (by rw [← hb]; exact heap_alloc_new w3 _) (by kernel_rfl)
  have x6 := (HB.out.alloc (.map (wordMap g) 2)).cell 6
  simp only [Fs.cells, List.getElem?_cons_zero, List.getElem?_cons_succ] at x6
  rw [hs] at x6
  simp only [List.push_toArray, List.cons_append, List.nil_append, Nat.reduceAdd, fnV, wordMap] at m1 m2 m3 x6
  have hX2 := HX.out.alloc (.map (wordMap g) 2)
  have y0 := hX2.cell 0; have y1 := hX2.cell 1; have y2 := hX2.cell 2; have y3 := hX2.cell 3; have y4 := hX2.cell 4; have y5 := hX2.cell 5
  simp only [List.getElem?_cons_zero, List.getElem?_cons_succ, fnV, wordMap] at y0 y1 y2 y3 y4 y5
  have HT4 := Lib.hid (HT.out.keepB ((Below.refl _ _).alloc (Nat.le_refl _) (.map (wordMap g) 2)))
  have hsl3 : ∀ i ∈ S, i < (w3.alloc (.map (wordMap g) 2)).heap.size := fun i hi => by have := HSL.out i hi; have := HT.out.keep.size; simp; omega
  have HS4 := Lib.hid hsl3
  clear hX2 hsl3
  go_wp2_with fail
  refine (HPO.out S _ HS4.out HT4.out.in_).mono ?_
  rintro e w4 ⟨rfl, hT⟩
  obtain ⟨S1, hT⟩ := HT4.out.trans hT
  replace HT := Lib.hid hT
  clear hT HT4 HS4 y0 y1 y2 y3 y4 y5 m0 m1 m2 m3 x6 c6 HF HS HB HX hb
  go_wp2_with fail
  refine (reported_in _ g _ _ HT.out.in_).mono ?_
  rintro e w5 ⟨v, S2, rfl, hP, hG⟩
  have HP := Lib.hid hP; have HG := Lib.hid hG; clear hP hG
  go_wp2_with fail
  go_ret2
  exact ⟨_, S2, rfl, HT.out.thenPt HP.out, HT.out.thenGiven HG.out⟩
set_option maxHeartbeats 8000000 in
set_option maxRecDepth 100000 in
theorem Word_form (n : Nat) (hn : n < 4294967296) (hv : readV n = .tuple #[Wd.zero.val, .int .i64 6]) (hw : s.window ≠ 0) (h : FopIn w g S s) :
    Calls Try.prog 15 #[.pointer (some ⟨g, 0, none⟩), .int .u32 n] w fun e w' => e = .returned (.tuple #[.slice none 0 0, .int .i64 6]) ∧ FopTo w w' g S s := by
  have HN := Lib.hid (foNone_in s g S w false (by simpa using hw) h)
  have HT := Lib.hid (Pt.refl h)
  have HRD := Lib.hid (ReadWord_any n w hn)
  rw [hv] at HRD
  simp only [Wd.zero, Wd.val] at HRD
  clear h hw hv
  go_enter Try.func15, Try.ntmps15
  go_wp2_with fail
  refine (HN.out).mono ?_
  rintro e _ ⟨rfl, rfl⟩
  go_wp2_with fail
  refine HRD.out.mono ?_
  rintro e w1 ⟨rfl, hL⟩
  replace HT := Lib.hid (HT.out.keepB hL)
  clear hL HRD HN
  go_wp2_with fail
  go_ret2
  exact ⟨rfl, (HT.out.keepB ((Below.refl _ _).alloc (Nat.le_refl _) _)).to⟩
set_option maxHeartbeats 8000000 in
set_option maxRecDepth 100000 in
theorem Word_other (n : Nat) (xc xb xn : Int) (xl xw xr : Bool) (hn : n < 4294967296) (hv : readV n = .tuple #[.agg #[.int .i64 xc, .bool xl, .bool xw, .bool xr, .int .i64 xb, .int .i64 xn], .int .i64 0]) (hc : xc ≠ s.chan) (hw : s.window ≠ 0) (h : FopIn w g S s) :
    Calls Try.prog 15 #[.pointer (some ⟨g, 0, none⟩), .int .u32 n] w fun e w' => e = .returned (.tuple #[.slice none 0 0, .int .i64 2]) ∧ FopTo w w' g S s := by
  have hcc : (xc != s.chan) = true := by simp [hc]
  have HN := Lib.hid (foNone_in s g S w false (by simpa using hw) h)
  have HT := Lib.hid (Pt.refl h)
  have HRD := Lib.hid (ReadWord_any n w hn)
  rw [hv] at HRD
  clear h hw hv hc
  go_enter Try.func15, Try.ntmps15
  go_wp2_with fail
  refine (HN.out).mono ?_
  rintro e _ ⟨rfl, rfl⟩
  go_wp2_with fail
  refine HRD.out.mono ?_
  rintro e w1 ⟨rfl, hL⟩
  replace HT := Lib.hid (HT.out.keepB hL)
  clear hL HRD HN
  have hlw : w.heap.size ≤ w1.heap.size := HT.out.keep.size
  obtain ⟨r, hr⟩ : ∃ r, r = w1.heap.size := ⟨_, rfl⟩
  go_upto_region 6 with fail
  rw [← hr]
  refine gen_world (fun W => Pt w W g S S s ∧ Blk W r [.int .i64 xc, .bool xl, .bool xw, .bool xr, .int .i64 xb, .int .i64 xn] 35 ∧ w.heap.size ≤ r) ⟨HT.out.keepB ((Below.refl _ _).alloc (Nat.le_refl _) _), by rw [hr]; exact Blk.new w1 [.int .i64 xc, .bool xl, .bool xw, .bool xr, .int .i64 xb, .int .i64 xn] 35, by omega⟩ ?_
  clear HT hr hlw
  rintro w2 ⟨hT, hX, hwr⟩
  have HT := Lib.hid hT; have HX := Lib.hid hX; clear hT hX
  obtain ⟨ve, vw, vs, vb, hF, hS⟩ := HT.out.in_
  have HF := Lib.hid hF; have HS := Lib.hid hS; have HB := Lib.hid hF.blk; clear hF hS
  have c2 := HB.out.cell 2
  simp only [Fs.cells, List.getElem?_cons_zero, List.getElem?_cons_succ] at c2
  have x0 := HX.out.cell 0
  have x1 := HX.out.cell 1
  have x2 := HX.out.cell 2
  have x3 := HX.out.cell 3
  have x4 := HX.out.cell 4
  have x5 := HX.out.cell 5
  simp only [List.getElem?_cons_zero, List.getElem?_cons_succ] at x0 x1 x2 x3 x4 x5
  go_quiet (fail)
  clear c2 x0 x1 x2 x3 x4 x5
  refine post_any (fun W => Pt w W g S S s ∧ Blk W r [.int .i64 xc, .bool xl, .bool xw, .bool xr, .int .i64 xb, .int .i64 xn] 35) ⟨HT.out.drewN _, HX.out.drewN _⟩ ?_
  clear HT HX HF HS HB
  rintro w3 ⟨hT, hX⟩
  have HT := Lib.hid hT; have HX := Lib.hid hX; clear hT hX
  go_wp2_with fail
  go_ret2
  exact ⟨rfl, HT.out.to⟩
end
end
section
/-- The automaton s, made since w, at g; the blocks R are the law's own and not the automaton's. -/
def Fx (w W : World) (g : Nat) (R : List Nat) (s : Fs) : Prop := ∃ S1, Pt w W g [] S1 s ∧ (∀ i ∈ S1, i < W.heap.size) ∧ ∀ r ∈ R, w.heap.size ≤ r ∧ r < W.heap.size ∧ r ∉ S1
theorem Fx.size {w W : World} {g : Nat} {R : List Nat} {s : Fs} (h : Fx w W g R s) : w.heap.size ≤ W.heap.size := by
  obtain ⟨S1, h1, _⟩ := h
  exact h1.keep.size
theorem Fx.toBelow {w W : World} {g : Nat} {R : List Nat} {s : Fs} (h : Fx w W g R s) : Below w.heap.size w W := by
  obtain ⟨S1, h1, _⟩ := h
  exact h1.keep.toBelow
theorem Fx.sub {w W : World} {g : Nat} {R R' : List Nat} {s : Fs} (h : Fx w W g R s) (hR : ∀ r ∈ R', r ∈ R) : Fx w W g R' s := by
  obtain ⟨S1, h1, h2, h3⟩ := h
  exact ⟨S1, h1, h2, fun r hr => h3 r (hR r hr)⟩
theorem Fx.start {w W : World} {g : Nat} {s : Fs} (hg : g = w.heap.size) (hL : Below w.heap.size w W) (h : FopIn W g [g] s) : Fx w W g [] s := by
  refine ⟨[g], ⟨h, ⟨hL.os, hL.tape, hL.output, hL.size, fun i hi _ => hL.block i hi⟩, fun k hk => by simp at hk; omega⟩, fun i hi => ?_, fun r hr => by cases hr⟩
  obtain ⟨_, _, _, _, hF, _⟩ := h
  simp at hi
  subst hi
  exact hF.blk.lt
/-- A call of a method. -/
theorem Fx.call {w W : World} {g : Nat} {R : List Nat} {s : Fs} (h : Fx w W g R s) : ∃ S1, FopIn W g S1 s ∧ (∀ i ∈ S1, i < W.heap.size) ∧
    (∀ {W' s'}, FopTo W W' g S1 s' → Fx w W' g R s' ∧ ∀ r ∈ R, W'.heap[r]? = W.heap[r]?) ∧
    (∀ {W' s' S' l v}, Pt W W' g S1 S' s' → Given W W' S1 S' l v → Fx w W' g (v.ownBlock.toList ++ R) s' ∧ QRow W' 0 46 3 v l.length (evRow l) ∧ ∀ r ∈ R, W'.heap[r]? = W.heap[r]?) := by
  obtain ⟨S1, h1, h2, h3⟩ := h
  refine ⟨S1, h1.in_, h2, fun k => ?_, fun {W' s' S' l v} k1 k2 => ?_⟩
  · obtain ⟨S2, k1, k2, k3⟩ := k
    obtain ⟨S3, l1, l2, l3⟩ := k1.small
    refine ⟨⟨S3, ⟨l1, h1.keep.trans_new k2 h1.new, fun x hx => ?_⟩, l2, fun r hr => ⟨(h3 r hr).1, Nat.lt_of_lt_of_le (h3 r hr).2.1 k2.size, fun hm => ?_⟩⟩, fun r hr => k2.block r (h3 r hr).2.1 (h3 r hr).2.2⟩
    · rcases k3 x (l3 x hx) with e | e
      · exact h1.new x e
      · exact .inr (Nat.le_trans h1.keep.size e)
    · rcases k3 r (l3 r hm) with e | e
      · exact (h3 r hr).2.2 e
      · have := (h3 r hr).2.1; omega
  · obtain ⟨S3, l1, l2, l3⟩ := k1.in_.small
    have hn : ∀ x ∈ S3, x ∈ ([] : List Nat) ∨ w.heap.size ≤ x := fun x hx => by
      rcases k1.new x (l3 x hx) with e | e
      · exact h1.new x e
      · exact .inr (Nat.le_trans h1.keep.size e)
    refine ⟨⟨S3, ⟨l1, h1.keep.trans_new k1.keep h1.new, hn⟩, l2, fun r hr => ?_⟩, k2.1, fun r hr => k1.keep.block r (h3 r hr).2.1 (h3 r hr).2.2⟩
    rcases List.mem_append.1 hr with hr | hr
    · have hv : v.ownBlock = some r := by simpa using hr
      refine ⟨?_, (q_lt k2.1 r hv).2, fun hm => (k2.2 r hv).1 (l3 r hm)⟩
      rcases (k2.2 r hv).2 with e | e
      · rcases h1.new r e with e | e
        · cases e
        · exact e
      · exact Nat.le_trans h1.keep.size e
    · refine ⟨(h3 r hr).1, Nat.lt_of_lt_of_le (h3 r hr).2.1 k1.keep.size, fun hm => ?_⟩
      rcases k1.new r (l3 r hm) with e | e
      · exact (h3 r hr).2.2 e
      · have := (h3 r hr).2.1; omega
/-- New blocks, or blocks of R, have changed. -/
theorem Fx.far {w W W' : World} {g : Nat} {R T : List Nat} {s : Fs} (h : Fx w W g R s) (k : Keep T W W') (hT : ∀ i ∈ T, i ∈ R ∨ W.heap.size ≤ i) : Fx w W' g R s := by
  obtain ⟨S1, h1, h2, h3⟩ := h
  have hn : ∀ i ∈ S1, i < W.heap.size → i ∉ T := fun i hi hl hm => by
    rcases hT i hm with e | e
    · exact (h3 i e).2.2 hi
    · omega
  refine ⟨S1, ⟨h1.in_.keep k hn, h1.keep.trans_new k (fun i hi => ?_), h1.new⟩, fun i hi => Nat.lt_of_lt_of_le (h2 i hi) k.size, fun r hr => ⟨(h3 r hr).1, Nat.lt_of_lt_of_le (h3 r hr).2.1 k.size, (h3 r hr).2.2⟩⟩
  rcases hT i hi with e | e
  · exact .inr (h3 i e).1
  · exact .inr (Nat.le_trans h1.keep.size e)
theorem Fx.below {w W W' : World} {g : Nat} {R : List Nat} {s : Fs} (h : Fx w W g R s) (k : Below W.heap.size W W') : Fx w W' g R s :=
  h.far (T := []) ⟨k.os, k.tape, k.output, k.size, fun i hi _ => k.block i hi⟩ (fun i hi => by cases hi)
/-- A block that is new joins R. -/
theorem Fx.add {w W W' : World} {g b : Nat} {R : List Nat} {s : Fs} (h : Fx w W g R s) (k : Below W.heap.size W W') (hb : W.heap.size ≤ b) (hb2 : b < W'.heap.size) : Fx w W' g (b :: R) s := by
  have hz := h.size
  obtain ⟨S1, h1, h2, h3⟩ := h.below k
  obtain ⟨S0, g1, g2, g3⟩ := h
  have g4 : FopIn W' g S0 s := g1.in_.below k
  refine ⟨S0, ⟨g4, g1.keep.below k g1.keep.size, g1.new⟩, fun i hi => Nat.lt_of_lt_of_le (g2 i hi) k.size, fun r hr => ?_⟩
  rcases List.mem_cons.1 hr with e | e
  · subst e
    exact ⟨by omega, hb2, fun hm => by have := g2 r hm; omega⟩
  · exact ⟨(g3 r e).1, Nat.lt_of_lt_of_le (g3 r e).2.1 k.size, (g3 r e).2.2⟩
theorem Fx.alloc {w W : World} {g : Nat} {R : List Nat} {s : Fs} (h : Fx w W g R s) (o : Obj) : Fx w (W.alloc o) g (W.heap.size :: R) s :=
  h.add ((Below.refl _ _).alloc (Nat.le_refl _) o) (Nat.le_refl _) (by simp)
theorem evRow_at : ∀ (l : List Ev) (k : Nat) (h : k < l.length), (evRow l)[k * 3]? = some (.int .i64 l[k].kind) ∧ (evRow l)[k * 3 + 1]? = some (.int .i64 l[k].id) ∧ (evRow l)[k * 3 + 2]? = some (.int .i64 l[k].why)
  | [], k, h => by simp at h
  | u :: l, 0, _ => ⟨rfl, rfl, rfl⟩
  | u :: l, k + 1, h => by
    obtain ⟨h1, h2, h3⟩ := evRow_at l k (by simpa using h)
    have e1 : (k + 1) * 3 = k * 3 + 3 := by omega
    have hu : ∀ j, (evRow (u :: l))[j + 3]? = (evRow l)[j]? := fun j => by
      show (u.cells ++ evRow l)[j + 3]? = _
      rw [List.getElem?_append_right (by simp [Ev.cells])]
      simp [Ev.cells]
    refine ⟨?_, ?_, ?_⟩
    · rw [e1, hu]; exact h1
    · rw [e1, show k * 3 + 3 + 1 = (k * 3 + 1) + 3 by omega, hu]; exact h2
    · rw [e1, show k * 3 + 3 + 2 = (k * 3 + 2) + 3 by omega, hu]; exact h3
theorem Blk.same {W W' : World} {b : Nat} {vs : List Value} {t : TypeId} (h : Blk W b vs t) (e : W'.heap[b]? = W.heap[b]?) : Blk W' b vs t := by unfold Blk at *; rw [e]; exact h
theorem q_same {W W' : World} {base : Nat} {e : TypeId} {sz : Nat} {v : Value} {n : Nat} {xs : List Value} (h : QRow W base e sz v n xs) (he : ∀ k, v.ownBlock = some k → W'.heap[k]? = W.heap[k]?) : QRow W' base e sz v n xs := by
  refine ⟨h.1, h.2.1, ?_⟩
  rcases h.2.2 with h | ⟨g, off, cap, cur, hv, hb, hg, r⟩
  · exact .inl h
  · exact .inr ⟨g, off, cap, cur, hv, hb, by rw [he g (by rw [hv]; rfl)]; exact hg, r⟩
end
end Go.Proofs.Ytbncejmohhejlaa
