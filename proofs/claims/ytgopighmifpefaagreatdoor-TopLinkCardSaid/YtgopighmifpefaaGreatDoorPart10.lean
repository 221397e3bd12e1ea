/- What is proved here: a part of the proof of TopLink (texts Fx F5 Pa5 Ck0). No condition. -/
import Derived.Test.YtgopighmifpefaaGreatDoorPart04
import Derived.Test.YtgopighmifpefaaGreatDoorPart08
import Derived.Test.YtgopighmifpefaaGreatDoorPart09
set_option linter.unusedVariables false
set_option linter.unusedSimpArgs false
namespace Go.Proofs.YtgopighmifpefaaGreatDoor
section
open Go.RowKit
section
def fnV (f : FuncId) (g : Nat) : Value := .func (.func f) #[.pointer (some ⟨g, 0, none⟩)] #[]
def wordMap (g : Nat) : Array MapEntry := #[{ key := .int .i64 1, val := fnV 50 g, born := 0 }, { key := .int .i64 2, val := fnV 51 g, born := 1 }]
theorem fmap_made (w : World) (b : Nat) (hg : w.heap.size = b) : (Instr.makeMap 129 none).run Tryz.prog w = .ok (.map (some b)) (w.alloc (.map #[] 0)) := by rw [← hg]; exact run_makeMap_plain w _
theorem fmap_ins (w : World) (es : Array MapEntry) (clock : Nat) (k : Int) (val : Value) (hf : Instr.findNow (.int .i64) (.int .i64 k) es.toList 0 = some none) (b : Nat) (hg : w.heap.size = b) :
   (Instr.mapUpdate 129 (.map (some b)) (.int .i64 k) val).run Tryz.prog (w.alloc (.map es clock)) = .ok () (w.alloc (.map (es.push { key := .int .i64 k, val := val, born := clock }) (clock + 1))) := by
  subst hg
  have hb : (w.alloc (.map es clock)).heap[w.heap.size]? = some (.map es clock) := heap_alloc_new w _
  have hc : (Instr.checkKey false 10000 3 (.int .i64 k)).run Tryz.prog (w.alloc (.map es clock)) = .ok () (w.alloc (.map es clock)) := MapKept.run_checkKey (k := .int .i64 k) Tryz.underlying3 (by simp [MapKept.IsKey]) false 9999
  have hp : ∀ (h : Array Obj) (x y : Obj), (h.push x).setIfInBounds h.size y = h.push y := by
    intro h x y
    apply Array.toList_inj.1
    simp
  simp [Instr.mapUpdate, run_underlying Tryz.underlying129, MapKept.run_getObj_map hb, hc, MapKept.run_findKey Tryz.underlying3 hf, MapKept.run_setObj_map _ hb, Result.andThen]
  show ({ w with heap := (w.heap.push _).setIfInBounds w.heap.size _ } : World) = { w with heap := w.heap.push _ }
  rw [hp]
theorem fmap_look (g : Nat) (W : World) (b : Nat) (k : Int) (f : FuncId) (i : Nat) (hb : W.heap[b]? = some (.map (wordMap g) 2)) (hf : Instr.findNow (.int .i64) (.int .i64 k) (wordMap g).toList 0 = some (some (i, fnV f g))) :
    (Instr.lookup 129 (.map (some b)) (.int .i64 k) true).run Tryz.prog W = .ok (.tuple #[fnV f g, .bool true]) W := by
  have hc : (Instr.checkKey false 10000 3 (.int .i64 k)).run Tryz.prog W = .ok () W := MapKept.run_checkKey (k := .int .i64 k) Tryz.underlying3 (by simp [MapKept.IsKey]) false 9999
  have he : (wordMap g).isEmpty = false := rfl
  simp [Instr.lookup, run_underlying Tryz.underlying129, MapKept.run_getObj_map hb, he, hc, MapKept.run_findKey Tryz.underlying3 hf, Result.andThen]
theorem Pt.thenPt {w W W' : World} {g : Nat} {S S1 S2 : List Nat} {s s' : Fs} (h : Pt w W g S S1 s) (k : Pt W W' g S1 S2 s') : Pt w W' g S S2 s' :=
  ⟨k.in_, h.keep.trans_new k.keep h.new, fun x hx => by
    rcases k.new x hx with e | e
    · exact h.new x e
    · exact .inr (Nat.le_trans h.keep.size e)⟩
theorem Pt.thenGiven {w W W' : World} {g : Nat} {S S1 S2 : List Nat} {s : Fs} {l : List Ev} {v : Value} (h : Pt w W g S S1 s) (k : Given W W' S1 S2 l v) : Given w W' S S2 l v :=
  ⟨k.1, fun x hx => ⟨(k.2 x hx).1, by
    rcases (k.2 x hx).2 with e | e
    · exact h.new x e
    · exact .inr (Nat.le_trans h.keep.size e)⟩⟩
section
variable (s : Fs) (g : Nat) (S : List Nat) (w : World)
set_option maxHeartbeats 8000000 in
set_option maxRecDepth 100000 in
theorem Word_ready (n : Nat) (xc xb xn : Int) (xw xr : Bool) (kn : Nat) (hn : n < 4294967296) (hv : readV n = .tuple #[.agg #[.int .i64 xc, .bool false, .bool xw, .bool xr, .int .i64 xb, .int .i64 xn], .int .i64 0]) (hc : xc = s.chan) (hs : s.service = 2) (he : s.events.length ≤ 1000) (hsl : s.sent.length ≤ 127) (hb0 : 0 ≤ s.base) (hb1 : s.base ≤ 255) (hn0 : 0 ≤ xn) (hn1 : xn ≤ 255) (hkc : (xn - s.base) % 256 = (kn : Int)) (hk : kn ≤ s.sent.length) (hw : s.window ≠ 0) (hSl : ∀ i ∈ S, i < w.heap.size) (h : FopIn w g S s) :
    Calls Tryz.prog 29 #[.pointer (some ⟨g, 0, none⟩), .int .u32 n] w fun e w' => ∃ v S', e = .returned (.tuple #[v, .int .i64 0]) ∧ Pt w w' g S S' { wordF s xn xw xr kn with events := [] } ∧ Given w w' S S' (wordF s xn xw xr kn).events v := by
  have hcc : (xc != s.chan) = false := by simp [hc]
  have HPO := Lib.hid (fun S1 W (h1 : ∀ i ∈ S1, i < W.heap.size) (h2 : FopIn W g S1 s) => proceed_ok s g S1 W xc xb xn xw xr kn he hsl hb0 hb1 hn0 hn1 hkc hk h1 h2)
  clear he hsl hb0 hb1 hn0 hn1 hkc hk hc
  have HN := Lib.hid (foNone_in s g S w false (by simpa using hw) h)
  have HT := Lib.hid (Pt.refl h)
  have HRD := Lib.hid (ReadWord_any n w hn)
  rw [hv] at HRD
  have HSL := Lib.hid hSl
  clear h hw hv hSl
  go_enter Tryz.func29, Tryz.ntmps29
  go_wp2_with fail
  refine (HN.out).mono ?_
  rintro e _ ⟨rfl, rfl⟩
  go_wp2_with fail
  refine HRD.out.mono ?_
  rintro e w1 ⟨rfl, hL⟩
  replace HT := Lib.hid (HT.out.keepB hL)
  clear hL HRD HN
  have hlw : w.heap.size ≤ w1.heap.size := HT.out.keep.size
  obtain ⟨r, hr⟩ : ∃ r, r = w1.heap.size := ⟨_, rfl⟩
  go_upto_region 6 with fail
  rw [← hr]
  refine gen_world (fun W => Pt w W g S S s ∧ Blk W r [.int .i64 xc, .bool false, .bool xw, .bool xr, .int .i64 xb, .int .i64 xn] 78 ∧ w.heap.size ≤ r) ⟨HT.out.keepB ((Below.refl _ _).alloc (Nat.le_refl _) _), by rw [hr]; exact Blk.new w1 [.int .i64 xc, .bool false, .bool xw, .bool xr, .int .i64 xb, .int .i64 xn] 78, by omega⟩ ?_
  clear HT hr hlw
  rintro w2 ⟨hT, hX, hwr⟩
  have HT := Lib.hid hT; have HX := Lib.hid hX; clear hT hX
  obtain ⟨ve, vw, vs, vb, hF, hS⟩ := HT.out.in_
  have HF := Lib.hid hF; have HS := Lib.hid hS; have HB := Lib.hid hF.blk; clear hF hS
  have c2 := HB.out.cell 2
  simp only [Fs.cells, List.getElem?_cons_zero, List.getElem?_cons_succ] at c2
  have x0 := HX.out.cell 0
  have x1 := HX.out.cell 1
  have x2 := HX.out.cell 2
  have x3 := HX.out.cell 3
  have x4 := HX.out.cell 4
  have x5 := HX.out.cell 5
  simp only [List.getElem?_cons_zero, List.getElem?_cons_succ] at x0 x1 x2 x3 x4 x5
  go_quiet (fail)
  clear c2 x0 x1 x2 x3 x4 x5
  refine post_any (fun W => Pt w W g S S s ∧ Blk W r [.int .i64 xc, .bool false, .bool xw, .bool xr, .int .i64 xb, .int .i64 xn] 78) ⟨HT.out.drewN _, HX.out.drewN _⟩ ?_
  clear HT HX HF HS HB
  rintro w3 ⟨hT, hX⟩
  have HT := Lib.hid hT; have HX := Lib.hid hX; clear hT hX
  obtain ⟨ve, vw, vs, vb, hF, hS⟩ := HT.out.in_
  have HF := Lib.hid hF; have HS := Lib.hid hS; have HB := Lib.hid hF.blk; clear hF hS
  have c6 := HB.out.cell 6
  simp only [Fs.cells, List.getElem?_cons_zero, List.getElem?_cons_succ] at c6
  rw [hs] at c6
  obtain ⟨b, hb⟩ : ∃ b, w3.heap.size = b := ⟨_, rfl⟩
  have m0 := fmap_made w3 b hb
  have m1 := fmap_ins w3 #[] 0 1 (fnV 50 g) rfl b hb
  have m2 := fmap_ins w3 #[{ key := .int .i64 1, val := fnV 50 g, born := 0 }] 1 2 (fnV 51 g) (by kernel_rfl) b hb
  have m3 := fmap_look g (w3.alloc (.map (wordMap g) 2)) b 2 (51) 1 (by rw [← hb]; exact heap_alloc_new w3 _) (by kernel_rfl)
  have x6 := (HB.out.alloc (.map (wordMap g) 2)).cell 6
  simp only [Fs.cells, List.getElem?_cons_zero, List.getElem?_cons_succ] at x6
  rw [hs] at x6
  simp only [List.push_toArray, List.cons_append, List.nil_append, Nat.reduceAdd, fnV, wordMap] at m1 m2 m3 x6
  have hX2 := HX.out.alloc (.map (wordMap g) 2)
  have y0 := hX2.cell 0; have y1 := hX2.cell 1; have y2 := hX2.cell 2; have y3 := hX2.cell 3; have y4 := hX2.cell 4; have y5 := hX2.cell 5
  simp only [List.getElem?_cons_zero, List.getElem?_cons_succ, fnV, wordMap] at y0 y1 y2 y3 y4 y5
  have HT4 := Lib.hid (HT.out.keepB ((Below.refl _ _).alloc (Nat.le_refl _) (.map (wordMap g) 2)))
  have hsl3 : ∀ i ∈ S, i < (w3.alloc (.map (wordMap g) 2)).heap.size := fun i hi => by have := HSL.out i hi; have := HT.out.keep.size; simp; omega
  have HS4 := Lib.hid hsl3
  clear hX2 hsl3
  go_wp2_with fail
  refine (HPO.out S _ HS4.out HT4.out.in_).mono ?_
  rintro e w4 ⟨rfl, hT⟩
  obtain ⟨S1, hT⟩ := HT4.out.trans hT
  replace HT := Lib.hid hT
  clear hT HT4 HS4 y0 y1 y2 y3 y4 y5 m0 m1 m2 m3 x6 c6 HF HS HB HX hb
  go_wp2_with fail
  refine (reported_in _ g _ _ HT.out.in_).mono ?_
  rintro e w5 ⟨v, S2, rfl, hP, hG⟩
  have HP := Lib.hid hP; have HG := Lib.hid hG; clear hP hG
  go_wp2_with fail
  go_ret2
  exact ⟨_, S2, rfl, HT.out.thenPt HP.out, HT.out.thenGiven HG.out⟩
end
end
section
/-- The automaton s, made since w, at g; the blocks R are the law's own and not the automaton's. -/
def Fx (w W : World) (g : Nat) (R : List Nat) (s : Fs) : Prop := ∃ S1, Pt w W g [] S1 s ∧ (∀ i ∈ S1, i < W.heap.size) ∧ ∀ r ∈ R, w.heap.size ≤ r ∧ r < W.heap.size ∧ r ∉ S1
theorem Fx.size {w W : World} {g : Nat} {R : List Nat} {s : Fs} (h : Fx w W g R s) : w.heap.size ≤ W.heap.size := by
  obtain ⟨S1, h1, _⟩ := h
  exact h1.keep.size
theorem Fx.toBelow {w W : World} {g : Nat} {R : List Nat} {s : Fs} (h : Fx w W g R s) : Below w.heap.size w W := by
  obtain ⟨S1, h1, _⟩ := h
  exact h1.keep.toBelow
theorem Fx.sub {w W : World} {g : Nat} {R R' : List Nat} {s : Fs} (h : Fx w W g R s) (hR : ∀ r ∈ R', r ∈ R) : Fx w W g R' s := by
  obtain ⟨S1, h1, h2, h3⟩ := h
  exact ⟨S1, h1, h2, fun r hr => h3 r (hR r hr)⟩
theorem Fx.start {w W : World} {g : Nat} {s : Fs} (hg : g = w.heap.size) (hL : Below w.heap.size w W) (h : FopIn W g [g] s) : Fx w W g [] s := by
  refine ⟨[g], ⟨h, ⟨hL.os, hL.tape, hL.output, hL.size, fun i hi _ => hL.block i hi⟩, fun k hk => by simp at hk; omega⟩, fun i hi => ?_, fun r hr => by cases hr⟩
  obtain ⟨_, _, _, _, hF, _⟩ := h
  simp at hi
  subst hi
  exact hF.blk.lt
/-- A call of a method. -/
theorem Fx.call {w W : World} {g : Nat} {R : List Nat} {s : Fs} (h : Fx w W g R s) : ∃ S1, FopIn W g S1 s ∧ (∀ i ∈ S1, i < W.heap.size) ∧
    (∀ {W' s'}, FopTo W W' g S1 s' → Fx w W' g R s' ∧ ∀ r ∈ R, W'.heap[r]? = W.heap[r]?) ∧
    (∀ {W' s' S' l v}, Pt W W' g S1 S' s' → Given W W' S1 S' l v → Fx w W' g (v.ownBlock.toList ++ R) s' ∧ QRow W' 0 83 3 v l.length (evRow l) ∧ ∀ r ∈ R, W'.heap[r]? = W.heap[r]?) := by
  obtain ⟨S1, h1, h2, h3⟩ := h
  refine ⟨S1, h1.in_, h2, fun k => ?_, fun {W' s' S' l v} k1 k2 => ?_⟩
  · obtain ⟨S2, k1, k2, k3⟩ := k
    obtain ⟨S3, l1, l2, l3⟩ := k1.small
    refine ⟨⟨S3, ⟨l1, h1.keep.trans_new k2 h1.new, fun x hx => ?_⟩, l2, fun r hr => ⟨(h3 r hr).1, Nat.lt_of_lt_of_le (h3 r hr).2.1 k2.size, fun hm => ?_⟩⟩, fun r hr => k2.block r (h3 r hr).2.1 (h3 r hr).2.2⟩
    · rcases k3 x (l3 x hx) with e | e
      · exact h1.new x e
      · exact .inr (Nat.le_trans h1.keep.size e)
    · rcases k3 r (l3 r hm) with e | e
      · exact (h3 r hr).2.2 e
      · have := (h3 r hr).2.1; omega
  · obtain ⟨S3, l1, l2, l3⟩ := k1.in_.small
    have hn : ∀ x ∈ S3, x ∈ ([] : List Nat) ∨ w.heap.size ≤ x := fun x hx => by
      rcases k1.new x (l3 x hx) with e | e
      · exact h1.new x e
      · exact .inr (Nat.le_trans h1.keep.size e)
    refine ⟨⟨S3, ⟨l1, h1.keep.trans_new k1.keep h1.new, hn⟩, l2, fun r hr => ?_⟩, k2.1, fun r hr => k1.keep.block r (h3 r hr).2.1 (h3 r hr).2.2⟩
    rcases List.mem_append.1 hr with hr | hr
    · have hv : v.ownBlock = some r := by simpa using hr
      refine ⟨?_, (q_lt k2.1 r hv).2, fun hm => (k2.2 r hv).1 (l3 r hm)⟩
      rcases (k2.2 r hv).2 with e | e
      · rcases h1.new r e with e | e
        · cases e
        · exact e
      · exact Nat.le_trans h1.keep.size e
    · refine ⟨(h3 r hr).1, Nat.lt_of_lt_of_le (h3 r hr).2.1 k1.keep.size, fun hm => ?_⟩
      rcases k1.new r (l3 r hm) with e | e
      · exact (h3 r hr).2.2 e
      · have := (h3 r hr).2.1; omega
/-- New blocks, or blocks of R, have changed. -/
theorem Fx.far {w W W' : World} {g : Nat} {R T : List Nat} {s : Fs} (h : Fx w W g R s) (k : Keep T W W') (hT : ∀ i ∈ T, i ∈ R ∨ W.heap.size ≤ i) : Fx w W' g R s := by
  obtain ⟨S1, h1, h2, h3⟩ := h
  have hn : ∀ i ∈ S1, i < W.heap.size → i ∉ T := fun i hi hl hm => by
    rcases hT i hm with e | e
    · exact (h3 i e).2.2 hi
    · omega
  refine ⟨S1, ⟨h1.in_.keep k hn, h1.keep.trans_new k (fun i hi => ?_), h1.new⟩, fun i hi => Nat.lt_of_lt_of_le (h2 i hi) k.size, fun r hr => ⟨(h3 r hr).1, Nat.lt_of_lt_of_le (h3 r hr).2.1 k.size, (h3 r hr).2.2⟩⟩
  rcases hT i hi with e | e
  · exact .inr (h3 i e).1
  · exact .inr (Nat.le_trans h1.keep.size e)
theorem Fx.below {w W W' : World} {g : Nat} {R : List Nat} {s : Fs} (h : Fx w W g R s) (k : Below W.heap.size W W') : Fx w W' g R s :=
  h.far (T := []) ⟨k.os, k.tape, k.output, k.size, fun i hi _ => k.block i hi⟩ (fun i hi => by cases hi)
/-- A block that is new joins R. -/
theorem Fx.add {w W W' : World} {g b : Nat} {R : List Nat} {s : Fs} (h : Fx w W g R s) (k : Below W.heap.size W W') (hb : W.heap.size ≤ b) (hb2 : b < W'.heap.size) : Fx w W' g (b :: R) s := by
  have hz := h.size
  obtain ⟨S1, h1, h2, h3⟩ := h.below k
  obtain ⟨S0, g1, g2, g3⟩ := h
  have g4 : FopIn W' g S0 s := g1.in_.below k
  refine ⟨S0, ⟨g4, g1.keep.below k g1.keep.size, g1.new⟩, fun i hi => Nat.lt_of_lt_of_le (g2 i hi) k.size, fun r hr => ?_⟩
  rcases List.mem_cons.1 hr with e | e
  · subst e
    exact ⟨by omega, hb2, fun hm => by have := g2 r hm; omega⟩
  · exact ⟨(g3 r e).1, Nat.lt_of_lt_of_le (g3 r e).2.1 k.size, (g3 r e).2.2⟩
theorem Fx.alloc {w W : World} {g : Nat} {R : List Nat} {s : Fs} (h : Fx w W g R s) (o : Obj) : Fx w (W.alloc o) g (W.heap.size :: R) s :=
  h.add ((Below.refl _ _).alloc (Nat.le_refl _) o) (Nat.le_refl _) (by simp)
theorem evRow_at : ∀ (l : List Ev) (k : Nat) (h : k < l.length), (evRow l)[k * 3]? = some (.int .i64 l[k].kind) ∧ (evRow l)[k * 3 + 1]? = some (.int .i64 l[k].id) ∧ (evRow l)[k * 3 + 2]? = some (.int .i64 l[k].why)
  | [], k, h => by simp at h
  | u :: l, 0, _ => ⟨rfl, rfl, rfl⟩
  | u :: l, k + 1, h => by
    obtain ⟨h1, h2, h3⟩ := evRow_at l k (by simpa using h)
    have e1 : (k + 1) * 3 = k * 3 + 3 := by omega
    have hu : ∀ j, (evRow (u :: l))[j + 3]? = (evRow l)[j]? := fun j => by
      show (u.cells ++ evRow l)[j + 3]? = _
      rw [List.getElem?_append_right (by simp [Ev.cells])]
      simp [Ev.cells]
    refine ⟨?_, ?_, ?_⟩
    · rw [e1, hu]; exact h1
    · rw [e1, show k * 3 + 3 + 1 = (k * 3 + 1) + 3 by omega, hu]; exact h2
    · rw [e1, show k * 3 + 3 + 2 = (k * 3 + 2) + 3 by omega, hu]; exact h3
theorem Blk.same {W W' : World} {b : Nat} {vs : List Value} {t : TypeId} (h : Blk W b vs t) (e : W'.heap[b]? = W.heap[b]?) : Blk W' b vs t := by unfold Blk at *; rw [e]; exact h
theorem q_same {W W' : World} {base : Nat} {e : TypeId} {sz : Nat} {v : Value} {n : Nat} {xs : List Value} (h : QRow W base e sz v n xs) (he : ∀ k, v.ownBlock = some k → W'.heap[k]? = W.heap[k]?) : QRow W' base e sz v n xs := by
  refine ⟨h.1, h.2.1, ?_⟩
  rcases h.2.2 with h | ⟨g, off, cap, cur, hv, hb, hg, r⟩
  · exact .inl h
  · exact .inr ⟨g, off, cap, cur, hv, hb, by rw [he g (by rw [hv]; rfl)]; exact hg, r⟩
end
end
section
open Go.RowKit
attribute [local go_sem] store_fn0 store_fn1
set_option maxHeartbeats 4000000 in
set_option maxRecDepth 100000 in
theorem Take_seq (c ch : Int) (k : Bool) (s : Int) (d : ByteArray) (hf : Int) (lo wa re : Bool) (by_ nx : Int) (room : Bool) (g : Nat) (w : World) (hok : (Fm.mk c hf ⟨ch, lo, wa, re, by_, nx⟩).ok) (hB : Blk w g (Fm.mk c hf ⟨ch, lo, wa, re, by_, nx⟩).cells 80)
    (hg : (Tc.mk c ch false k s d).good = true) :
    Calls Tryz.prog 18 #[.pointer (some ⟨g, 0, none⟩), (Tc.mk c ch false k s d).val, .bool room] w fun e w' => e = .returned (.tuple #[.bool ((doF (Fm.mk c hf ⟨ch, lo, wa, re, by_, nx⟩) (firstAct (Fm.mk c hf ⟨ch, lo, wa, re, by_, nx⟩) ((s - nx) % 256) room)).st.next != nx), .int .i64 0]) ∧ Keep [g] w w' ∧ Blk w' g (doF (Fm.mk c hf ⟨ch, lo, wa, re, by_, nx⟩) (firstAct (Fm.mk c hf ⟨ch, lo, wa, re, by_, nx⟩) ((s - nx) % 256) room)).cells 80 := by
  have hP := Put_any (Tc.mk c ch false k s d)
  obtain ⟨hk1, hk2, hk3, hk4, hk5, hk6⟩ := hok
  have hlt : g < w.heap.size := hB.lt
  have hne : ((Fm.mk c hf ⟨ch, lo, wa, re, by_, nx⟩).half == 0) = false := by
    have : hf ≠ 0 := by simp only at hk1; omega
    simpa using this
  have hnone := fun w h => none_any (Fm.mk c hf ⟨ch, lo, wa, re, by_, nx⟩) g w false hne h
  clear hne
  have hsq : (Tc.mk c ch false k s d).good = true → 0 ≤ s ∧ s ≤ 255 := fun h => by have := (Tc.good_iff _).1 h; simp only at this; omega
  unfold Tc.putV at hP
  obtain ⟨s0, hs0⟩ : ∃ s0 : ByteArray, strOf (Tc.mk c ch false k s d).enc = .string s0 := ⟨_, rfl⟩
  rw [hs0] at hP
  clear hs0
  rw [hg] at hP
  obtain ⟨hs0, hs2⟩ := hsq hg
  clear hg hsq
  obtain ⟨a, ha⟩ : ∃ a, a = (s - nx) % 256 := ⟨_, rfl⟩
  have hand : bits .and .i64 (s - nx) 255 = a := by rw [ha]; exact and255' _ (by simp only at hk6; omega) (by simp only at hk5; omega)
  have ha0 : 0 ≤ a := by omega
  have ha1 : a ≤ 255 := by omega
  rw [← ha]
  clear ha
  obtain ⟨fa, hfa⟩ : ∃ fa, fa = firstAct (Fm.mk c hf ⟨ch, lo, wa, re, by_, nx⟩) a room := ⟨_, rfl⟩
  have hwh : ∀ k, k ≤ fa → whenB (Fm.mk c hf ⟨ch, lo, wa, re, by_, nx⟩) a room k = decide (k = fa) := fun k h => by rw [hfa] at h ⊢; exact firstAct_when _ _ _ k h
  have hfl : fa ≤ 5 := by rw [hfa]; exact firstAct_le _ _ _
  rw [← hfa]
  have HWH := Lib.hid hwh
  clear hfa hwh
  have hkn : nx ≤ 255 := hk6
  simp only [Tc.val] at hP hk1 hk2 hk3 hk4 hk5 hk6 ⊢
  have HP := Lib.hid hP; have HN := Lib.hid hnone; clear hP hnone
  have HK := Lib.hid ((Keep.refl [g] w).alloc (Obj.cells #[.int .i64 c, .int .i64 ch, .bool false, .bool k, .int .i64 s, .string d] 37))
  have HF := Lib.hid (hB.alloc (Obj.cells #[.int .i64 c, .int .i64 ch, .bool false, .bool k, .int .i64 s, .string d] 37))
  have HX := Lib.hid (Blk.new w [.int .i64 c, .int .i64 ch, .bool false, .bool k, .int .i64 s, .string d] 37)
  clear hB
  go_enter Tryz.func18, Tryz.ntmps18
  go_wp2_with fail
  refine (HN.out _ HF.out).mono ?_
  rintro e w1 ⟨rfl, rfl⟩
  go_wp2_with fail
  refine (HP.out _).mono ?_
  rintro e w1 ⟨rfl, hL1⟩
  have HK1 := Lib.hid (HK.out.below hL1 (by simp))
  have HF1 := Lib.hid (HF.out.below hL1 (by simp; omega))
  have HX1 := Lib.hid (HX.out.below hL1 (by simp))
  have hs1 : w.heap.size + 1 ≤ w1.heap.size := by have := hL1.size; simp at this; omega
  clear hL1
  have c0 := HF1.out.cell 0
  have c1 := HF1.out.cell 1
  have c2 := HF1.out.cell 2
  have c3 := HF1.out.cell 3
  have c4 := HF1.out.cell 4
  have c5 := HF1.out.cell 5
  have c6 := HF1.out.cell 6
  have c7 := HF1.out.cell 7
  simp only [Fm.cells, List.getElem?_cons_zero, List.getElem?_cons_succ] at c0 c1 c2 c3 c4 c5 c6 c7
  have x0 := HX1.out.cell 0
  have x1 := HX1.out.cell 1
  have x2 := HX1.out.cell 2
  have x3 := HX1.out.cell 3
  have x4 := HX1.out.cell 4
  have x5 := HX1.out.cell 5
  simp only [List.getElem?_cons_zero, List.getElem?_cons_succ] at x0 x1 x2 x3 x4 x5
  go_wp2_with fail
  go_quiet (fail)
  refine gen_post (fun w' => Keep [g] w w' ∧ Blk w' g (Fm.mk c hf ⟨ch, lo, wa, re, by_, nx⟩).cells 80 ∧ Blk w' w.heap.size [.int .i64 c, .int .i64 ch, .bool false, .bool k, .int .i64 s, .string d] 37 ∧ w.heap.size + 1 ≤ w'.heap.size) ⟨HK1.out.drewN _, HF1.out.drewN _, HX1.out.drewN _, hs1⟩ ?_
  clear HK1 HF1 HX1 hs1 c0 c1 c2 c3 c4 c5 c6 c7 x0 x1 x2 x3 x4 x5
  rintro w2 ⟨hK2, hF2, hX2, hs2'⟩
  have HK2 := Lib.hid hK2; have HF2 := Lib.hid hF2; have HX2 := Lib.hid hX2; clear hK2 hF2 hX2
  have c0 := HF2.out.cell 0
  have c1 := HF2.out.cell 1
  have c2 := HF2.out.cell 2
  have c3 := HF2.out.cell 3
  have c4 := HF2.out.cell 4
  have c5 := HF2.out.cell 5
  have c6 := HF2.out.cell 6
  have c7 := HF2.out.cell 7
  simp only [Fm.cells, List.getElem?_cons_zero, List.getElem?_cons_succ] at c0 c1 c2 c3 c4 c5 c6 c7
  have x0 := HX2.out.cell 0
  have x1 := HX2.out.cell 1
  have x2 := HX2.out.cell 2
  have x3 := HX2.out.cell 3
  have x4 := HX2.out.cell 4
  have x5 := HX2.out.cell 5
  simp only [List.getElem?_cons_zero, List.getElem?_cons_succ] at x0 x1 x2 x3 x4 x5
  have hwr : IntKind.i64.wrap (s - nx) = s - nx := IntWalk.i64_in _ (by omega)
  have HFA := Lib.hid (HF2.out.alloc (Obj.cells #[.int .i64 0, .bool false] 100))
  have HXA := Lib.hid (HX2.out.alloc (Obj.cells #[.int .i64 0, .bool false] 100))
  have q0 := HFA.out.cell 0
  have q1 := HFA.out.cell 1
  have q2 := HFA.out.cell 2
  have q3 := HFA.out.cell 3
  have q4 := HFA.out.cell 4
  have q5 := HFA.out.cell 5
  have q6 := HFA.out.cell 6
  have q7 := HFA.out.cell 7
  simp only [Fm.cells, List.getElem?_cons_zero, List.getElem?_cons_succ] at q0 q1 q2 q3 q4 q5 q6 q7
  have r0 := HXA.out.cell 0
  have r1 := HXA.out.cell 1
  have r2 := HXA.out.cell 2
  have r3 := HXA.out.cell 3
  have r4 := HXA.out.cell 4
  have r5 := HXA.out.cell 5
  simp only [List.getElem?_cons_zero, List.getElem?_cons_succ] at r0 r1 r2 r3 r4 r5
  go_wp2_with fail
  go_region
  obtain ⟨sB, hsB⟩ : ∃ sB, sB = w2.heap.size := ⟨_, rfl⟩
  refine gen_post (fun w' => Keep [g] w w' ∧ Blk w' g (Fm.mk c hf ⟨ch, lo, wa, re, by_, nx⟩).cells 80 ∧ Blk w' sB [.int .i64 a, .bool room] 100) ⟨(HK2.out.alloc _).drew, (HF2.out.alloc _).drew, by rw [hsB]; exact (Blk.new w2 [.int .i64 a, .bool room] _).drew⟩ ?_
  rw [← hsB]
  have hsB1 : w.heap.size + 1 ≤ sB := by omega
  clear HK2 HF2 HX2 HFA HXA hsB hs2' q0 q1 q2 q3 q4 q5 q6 q7 r0 r1 r2 r3 r4 r5 c0 c1 c2 c3 c4 c5 c6 c7 x0 x1 x2 x3 x4 x5
  rintro w3 ⟨hK3, hF3, hS3⟩
  have HK3 := Lib.hid hK3; have HF3 := Lib.hid hF3; have HS3 := Lib.hid hS3; clear hK3 hF3 hS3
  clear hand hwr HP HN HK HF HX
  go_wp2_with fail
  refine (actions_any w3).mono ?_
  rintro e w4 ⟨rfl, hL4, hA4⟩
  obtain ⟨aB, haB⟩ : ∃ aB, aB = w3.heap.size := ⟨_, rfl⟩
  rw [← haB] at hA4 ⊢
  have hsl : sB < w3.heap.size := HS3.out.lt
  have hgl : g < w3.heap.size := HF3.out.lt
  have haB1 : w.heap.size + 1 ≤ aB := by omega
  have haB2 : sB < aB := by omega
  have HK4 := Lib.hid (HK3.out.below hL4 (by have := HK3.out.size; omega))
  have HF4 := Lib.hid (HF3.out.below hL4 hgl)
  have HS4 := Lib.hid (HS3.out.below hL4 hsl)
  have HA4 := Lib.hid hA4
  clear hL4 hA4 HK3 HF3 HS3 haB hsl hgl
  go_wp2_with fail
  go_loopw [62] (fun i wr => ∃ k : Nat, k ≤ fa ∧ i = .int .i64 k ∧ Keep [g] w wr ∧ Blk wr g (Fm.mk c hf ⟨ch, lo, wa, re, by_, nx⟩).cells 80 ∧ Blk wr sB [.int .i64 a, .bool room] 100 ∧ Blk wr aB acts 106) (fun i _ => (6 - intOf i).toNat)
  case atStart => exact ⟨0, by omega, rfl, HK4.out, HF4.out, HS4.out, HA4.out⟩
  case round =>
    obtain ⟨k, hk, rfl, hK, hF, hS, hA⟩ := hrel
    have HKr := Lib.hid hK; have HFr := Lib.hid hF; have HSr := Lib.hid hS; have HAr := Lib.hid hA
    have hgl : g < wr.heap.size := hF.lt
    have hsl : sB < wr.heap.size := hS.lt
    have hal : aB < wr.heap.size := hA.lt
    have hwl : w.heap.size ≤ wr.heap.size := hK.size
    clear hK hF hS hA
    have hw := HWH.out k hk
    have A0 := HAr.out.cell 0
    have A1 := HAr.out.cell 1
    have A2 := HAr.out.cell 2
    have A3 := HAr.out.cell 3
    have A4 := HAr.out.cell 4
    have A5 := HAr.out.cell 5
    have A6 := HAr.out.cell 6
    have A7 := HAr.out.cell 7
    have A8 := HAr.out.cell 8
    have A9 := HAr.out.cell 9
    have A10 := HAr.out.cell 10
    have A11 := HAr.out.cell 11
    simp only [acts, List.getElem?_cons_zero, List.getElem?_cons_succ] at A0 A1 A2 A3 A4 A5 A6 A7 A8 A9 A10 A11
    have c0 := HFr.out.cell 0
    have c1 := HFr.out.cell 1
    have c2 := HFr.out.cell 2
    have c3 := HFr.out.cell 3
    have c4 := HFr.out.cell 4
    have c5 := HFr.out.cell 5
    have c6 := HFr.out.cell 6
    have c7 := HFr.out.cell 7
    simp only [Fm.cells, List.getElem?_cons_zero, List.getElem?_cons_succ] at c0 c1 c2 c3 c4 c5 c6 c7
    have s0 := HSr.out.cell 0
    have s1 := HSr.out.cell 1
    simp only [List.getElem?_cons_zero, List.getElem?_cons_succ] at s0 s1
    have hk6 : k = 0 ∨ k = 1 ∨ k = 2 ∨ k = 3 ∨ k = 4 ∨ k = 5 := by omega
    rcases hk6 with rfl | rfl | rfl | rfl | rfl | rfl
    · have HA := Lib.hid (HFr.out.alloc (Obj.cells #[.func (.func 72) #[] #[], .func (.func 73) #[] #[]] 106))
      by_cases hkf : fa = 0
      · subst hkf
        rw [show decide (0 = 0) = true from rfl] at hw
        go_wp2_with fail
        refine (when0 (Fm.mk c hf ⟨ch, lo, wa, re, by_, nx⟩) g _ a room HA.out).mono ?_
        rw [hw]
        rintro e w5 ⟨rfl, hL5⟩
        have HK5 := Lib.hid ((HKr.out.alloc (Obj.cells #[.func (.func 72) #[] #[], .func (.func 73) #[] #[]] 106)).below hL5 (by simp; omega))
        have HF5 := Lib.hid ((HFr.out.alloc (Obj.cells #[.func (.func 72) #[] #[], .func (.func 73) #[] #[]] 106)).below hL5 (by simp; omega))
        have HS5 := Lib.hid ((HSr.out.alloc (Obj.cells #[.func (.func 72) #[] #[], .func (.func 73) #[] #[]] 106)).below hL5 (by simp; omega))
        have HA5 := Lib.hid ((HAr.out.alloc (Obj.cells #[.func (.func 72) #[] #[], .func (.func 73) #[] #[]] 106)).below hL5 (by simp; omega))
        have HT5 := Lib.hid ((Blk.new wr [.func (.func 72) #[] #[], .func (.func 73) #[] #[]] 106).below hL5 (by simp))
        clear hL5 hw A0 A1 A2 A3 A4 A5 A6 A7 A8 A9 A10 A11 c0 c1 c2 c3 c4 c5 c6 c7 s0 s1
        have d0 := HF5.out.cell 0
        have d1 := HF5.out.cell 1
        have d2 := HF5.out.cell 2
        have d3 := HF5.out.cell 3
        have d4 := HF5.out.cell 4
        have d5 := HF5.out.cell 5
        have d6 := HF5.out.cell 6
        have d7 := HF5.out.cell 7
        simp only [Fm.cells, List.getElem?_cons_zero, List.getElem?_cons_succ] at d0 d1 d2 d3 d4 d5 d6 d7
        have t0 := HT5.out.cell 0
        have t1 := HT5.out.cell 1
        simp only [List.getElem?_cons_zero, List.getElem?_cons_succ] at t0 t1
        go_wp2_with fail
        refine still_tail 5 (by kernel_rfl) (by kernel_rfl) ?_
        simp only [List.take_succ_cons, List.take_zero, List.drop_succ_cons, List.drop_zero]
        repeat still_step
        refine wpStill_nil ?_
        go_wp2_with fail
        refine (do0 (Fm.mk c hf ⟨ch, lo, wa, re, by_, nx⟩) g _ HF5.out.drew).mono ?_
        rintro e w7 ⟨rfl, hK7, hF7⟩
        have HK7 := Lib.hid (HK5.out.drew.trans hK7)
        have HF7 := Lib.hid hF7
        clear hK7 hF7 t0 t1 d0 d1 d2 d3 d4 d5 d6 d7
        have d0 := HF7.out.cell 0
        have d1 := HF7.out.cell 1
        have d2 := HF7.out.cell 2
        have d3 := HF7.out.cell 3
        have d4 := HF7.out.cell 4
        have d5 := HF7.out.cell 5
        have d6 := HF7.out.cell 6
        have d7 := HF7.out.cell 7
        simp only [Fm.cells, doF, List.getElem?_cons_zero, List.getElem?_cons_succ] at d0 d1 d2 d3 d4 d5 d6 d7
        go_wp2_with fail
        go_ret2
        refine ⟨?_, HK7.out, HF7.out⟩
        first
          | rfl
          | (simp [doF]; done)
          | (simp [doF]; rfl)
      · have hlt6 : 0 < fa := by omega
        rw [show decide (0 = fa) = false by simp; omega] at hw
        go_wp2_with fail
        refine (when0 (Fm.mk c hf ⟨ch, lo, wa, re, by_, nx⟩) g _ a room HA.out).mono ?_
        rw [hw]
        rintro e w5 ⟨rfl, hL5⟩
        have HK5 := Lib.hid ((HKr.out.alloc (Obj.cells #[.func (.func 72) #[] #[], .func (.func 73) #[] #[]] 106)).below hL5 (by simp; omega))
        have HF5 := Lib.hid ((HFr.out.alloc (Obj.cells #[.func (.func 72) #[] #[], .func (.func 73) #[] #[]] 106)).below hL5 (by simp; omega))
        have HS5 := Lib.hid ((HSr.out.alloc (Obj.cells #[.func (.func 72) #[] #[], .func (.func 73) #[] #[]] 106)).below hL5 (by simp; omega))
        have HA5 := Lib.hid ((HAr.out.alloc (Obj.cells #[.func (.func 72) #[] #[], .func (.func 73) #[] #[]] 106)).below hL5 (by simp; omega))
        have HT5 := Lib.hid ((Blk.new wr [.func (.func 72) #[] #[], .func (.func 73) #[] #[]] 106).below hL5 (by simp))
        clear hL5 hw A0 A1 A2 A3 A4 A5 A6 A7 A8 A9 A10 A11 c0 c1 c2 c3 c4 c5 c6 c7 s0 s1
        have d0 := HF5.out.cell 0
        have d1 := HF5.out.cell 1
        have d2 := HF5.out.cell 2
        have d3 := HF5.out.cell 3
        have d4 := HF5.out.cell 4
        have d5 := HF5.out.cell 5
        have d6 := HF5.out.cell 6
        have d7 := HF5.out.cell 7
        simp only [Fm.cells, List.getElem?_cons_zero, List.getElem?_cons_succ] at d0 d1 d2 d3 d4 d5 d6 d7
        have t0 := HT5.out.cell 0
        have t1 := HT5.out.cell 1
        simp only [List.getElem?_cons_zero, List.getElem?_cons_succ] at t0 t1
        go_wp2_with fail
        go_roundw
        case rel => exact ⟨1, by omega, rfl, HK5.out, HF5.out, HS5.out, HA5.out⟩
        case measure => simp [intOf]
    · have HA := Lib.hid (HFr.out.alloc (Obj.cells #[.func (.func 74) #[] #[], .func (.func 75) #[] #[]] 106))
      by_cases hkf : fa = 1
      · subst hkf
        rw [show decide (1 = 1) = true from rfl] at hw
        go_wp2_with fail
        refine (when1 (Fm.mk c hf ⟨ch, lo, wa, re, by_, nx⟩) g _ a room).mono ?_
        rw [hw]
        rintro e w5 ⟨rfl, hL5⟩
        have HK5 := Lib.hid ((HKr.out.alloc (Obj.cells #[.func (.func 74) #[] #[], .func (.func 75) #[] #[]] 106)).below hL5 (by simp; omega))
        have HF5 := Lib.hid ((HFr.out.alloc (Obj.cells #[.func (.func 74) #[] #[], .func (.func 75) #[] #[]] 106)).below hL5 (by simp; omega))
        have HS5 := Lib.hid ((HSr.out.alloc (Obj.cells #[.func (.func 74) #[] #[], .func (.func 75) #[] #[]] 106)).below hL5 (by simp; omega))
        have HA5 := Lib.hid ((HAr.out.alloc (Obj.cells #[.func (.func 74) #[] #[], .func (.func 75) #[] #[]] 106)).below hL5 (by simp; omega))
        have HT5 := Lib.hid ((Blk.new wr [.func (.func 74) #[] #[], .func (.func 75) #[] #[]] 106).below hL5 (by simp))
        clear hL5 hw A0 A1 A2 A3 A4 A5 A6 A7 A8 A9 A10 A11 c0 c1 c2 c3 c4 c5 c6 c7 s0 s1
        have d0 := HF5.out.cell 0
        have d1 := HF5.out.cell 1
        have d2 := HF5.out.cell 2
        have d3 := HF5.out.cell 3
        have d4 := HF5.out.cell 4
        have d5 := HF5.out.cell 5
        have d6 := HF5.out.cell 6
        have d7 := HF5.out.cell 7
        simp only [Fm.cells, List.getElem?_cons_zero, List.getElem?_cons_succ] at d0 d1 d2 d3 d4 d5 d6 d7
        have t0 := HT5.out.cell 0
        have t1 := HT5.out.cell 1
        simp only [List.getElem?_cons_zero, List.getElem?_cons_succ] at t0 t1
        go_wp2_with fail
        refine still_tail 5 (by kernel_rfl) (by kernel_rfl) ?_
        simp only [List.take_succ_cons, List.take_zero, List.drop_succ_cons, List.drop_zero]
        repeat still_step
        refine wpStill_nil ?_
        go_wp2_with fail
        refine (do1 (Fm.mk c hf ⟨ch, lo, wa, re, by_, nx⟩) g _ HF5.out.drew hk5 hkn).mono ?_
        rintro e w7 ⟨rfl, hK7, hF7⟩
        have HK7 := Lib.hid (HK5.out.drew.trans hK7)
        have HF7 := Lib.hid hF7
        clear hK7 hF7 t0 t1 d0 d1 d2 d3 d4 d5 d6 d7
        have d0 := HF7.out.cell 0
        have d1 := HF7.out.cell 1
        have d2 := HF7.out.cell 2
        have d3 := HF7.out.cell 3
        have d4 := HF7.out.cell 4
        have d5 := HF7.out.cell 5
        have d6 := HF7.out.cell 6
        have d7 := HF7.out.cell 7
        simp only [Fm.cells, doF, List.getElem?_cons_zero, List.getElem?_cons_succ] at d0 d1 d2 d3 d4 d5 d6 d7
        go_wp2_with fail
        go_ret2
        refine ⟨?_, HK7.out, HF7.out⟩
        first
          | rfl
          | (simp [doF]; done)
          | (simp [doF]; rfl)
      · have hlt6 : 1 < fa := by omega
        rw [show decide (1 = fa) = false by simp; omega] at hw
        go_wp2_with fail
        refine (when1 (Fm.mk c hf ⟨ch, lo, wa, re, by_, nx⟩) g _ a room).mono ?_
        rw [hw]
        rintro e w5 ⟨rfl, hL5⟩
        have HK5 := Lib.hid ((HKr.out.alloc (Obj.cells #[.func (.func 74) #[] #[], .func (.func 75) #[] #[]] 106)).below hL5 (by simp; omega))
        have HF5 := Lib.hid ((HFr.out.alloc (Obj.cells #[.func (.func 74) #[] #[], .func (.func 75) #[] #[]] 106)).below hL5 (by simp; omega))
        have HS5 := Lib.hid ((HSr.out.alloc (Obj.cells #[.func (.func 74) #[] #[], .func (.func 75) #[] #[]] 106)).below hL5 (by simp; omega))
        have HA5 := Lib.hid ((HAr.out.alloc (Obj.cells #[.func (.func 74) #[] #[], .func (.func 75) #[] #[]] 106)).below hL5 (by simp; omega))
        have HT5 := Lib.hid ((Blk.new wr [.func (.func 74) #[] #[], .func (.func 75) #[] #[]] 106).below hL5 (by simp))
        clear hL5 hw A0 A1 A2 A3 A4 A5 A6 A7 A8 A9 A10 A11 c0 c1 c2 c3 c4 c5 c6 c7 s0 s1
        have d0 := HF5.out.cell 0
        have d1 := HF5.out.cell 1
        have d2 := HF5.out.cell 2
        have d3 := HF5.out.cell 3
        have d4 := HF5.out.cell 4
        have d5 := HF5.out.cell 5
        have d6 := HF5.out.cell 6
        have d7 := HF5.out.cell 7
        simp only [Fm.cells, List.getElem?_cons_zero, List.getElem?_cons_succ] at d0 d1 d2 d3 d4 d5 d6 d7
        have t0 := HT5.out.cell 0
        have t1 := HT5.out.cell 1
        simp only [List.getElem?_cons_zero, List.getElem?_cons_succ] at t0 t1
        go_wp2_with fail
        go_roundw
        case rel => exact ⟨2, by omega, rfl, HK5.out, HF5.out, HS5.out, HA5.out⟩
        case measure => simp [intOf]
    · have HA := Lib.hid (HFr.out.alloc (Obj.cells #[.func (.func 76) #[] #[], .func (.func 77) #[] #[]] 106))
      by_cases hkf : fa = 2
      · subst hkf
        rw [show decide (2 = 2) = true from rfl] at hw
        go_wp2_with fail
        refine (when2 (Fm.mk c hf ⟨ch, lo, wa, re, by_, nx⟩) g _ a room).mono ?_
        rw [hw]
        rintro e w5 ⟨rfl, hL5⟩
        have HK5 := Lib.hid ((HKr.out.alloc (Obj.cells #[.func (.func 76) #[] #[], .func (.func 77) #[] #[]] 106)).below hL5 (by simp; omega))
        have HF5 := Lib.hid ((HFr.out.alloc (Obj.cells #[.func (.func 76) #[] #[], .func (.func 77) #[] #[]] 106)).below hL5 (by simp; omega))
        have HS5 := Lib.hid ((HSr.out.alloc (Obj.cells #[.func (.func 76) #[] #[], .func (.func 77) #[] #[]] 106)).below hL5 (by simp; omega))
        have HA5 := Lib.hid ((HAr.out.alloc (Obj.cells #[.func (.func 76) #[] #[], .func (.func 77) #[] #[]] 106)).below hL5 (by simp; omega))
        have HT5 := Lib.hid ((Blk.new wr [.func (.func 76) #[] #[], .func (.func 77) #[] #[]] 106).below hL5 (by simp))
        clear hL5 hw A0 A1 A2 A3 A4 A5 A6 A7 A8 A9 A10 A11 c0 c1 c2 c3 c4 c5 c6 c7 s0 s1
        have d0 := HF5.out.cell 0
        have d1 := HF5.out.cell 1
        have d2 := HF5.out.cell 2
        have d3 := HF5.out.cell 3
        have d4 := HF5.out.cell 4
        have d5 := HF5.out.cell 5
        have d6 := HF5.out.cell 6
        have d7 := HF5.out.cell 7
        simp only [Fm.cells, List.getElem?_cons_zero, List.getElem?_cons_succ] at d0 d1 d2 d3 d4 d5 d6 d7
        have t0 := HT5.out.cell 0
        have t1 := HT5.out.cell 1
        simp only [List.getElem?_cons_zero, List.getElem?_cons_succ] at t0 t1
        go_wp2_with fail
        refine still_tail 5 (by kernel_rfl) (by kernel_rfl) ?_
        simp only [List.take_succ_cons, List.take_zero, List.drop_succ_cons, List.drop_zero]
        repeat still_step
        refine wpStill_nil ?_
        go_wp2_with fail
        refine (do2 (Fm.mk c hf ⟨ch, lo, wa, re, by_, nx⟩) g _ HF5.out.drew).mono ?_
        rintro e w7 ⟨rfl, hK7, hF7⟩
        have HK7 := Lib.hid (HK5.out.drew.trans hK7)
        have HF7 := Lib.hid hF7
        clear hK7 hF7 t0 t1 d0 d1 d2 d3 d4 d5 d6 d7
        have d0 := HF7.out.cell 0
        have d1 := HF7.out.cell 1
        have d2 := HF7.out.cell 2
        have d3 := HF7.out.cell 3
        have d4 := HF7.out.cell 4
        have d5 := HF7.out.cell 5
        have d6 := HF7.out.cell 6
        have d7 := HF7.out.cell 7
        simp only [Fm.cells, doF, List.getElem?_cons_zero, List.getElem?_cons_succ] at d0 d1 d2 d3 d4 d5 d6 d7
        go_wp2_with fail
        go_ret2
        refine ⟨?_, HK7.out, HF7.out⟩
        first
          | rfl
          | (simp [doF]; done)
          | (simp [doF]; rfl)
      · have hlt6 : 2 < fa := by omega
        rw [show decide (2 = fa) = false by simp; omega] at hw
        go_wp2_with fail
        refine (when2 (Fm.mk c hf ⟨ch, lo, wa, re, by_, nx⟩) g _ a room).mono ?_
        rw [hw]
        rintro e w5 ⟨rfl, hL5⟩
        have HK5 := Lib.hid ((HKr.out.alloc (Obj.cells #[.func (.func 76) #[] #[], .func (.func 77) #[] #[]] 106)).below hL5 (by simp; omega))
        have HF5 := Lib.hid ((HFr.out.alloc (Obj.cells #[.func (.func 76) #[] #[], .func (.func 77) #[] #[]] 106)).below hL5 (by simp; omega))
        have HS5 := Lib.hid ((HSr.out.alloc (Obj.cells #[.func (.func 76) #[] #[], .func (.func 77) #[] #[]] 106)).below hL5 (by simp; omega))
        have HA5 := Lib.hid ((HAr.out.alloc (Obj.cells #[.func (.func 76) #[] #[], .func (.func 77) #[] #[]] 106)).below hL5 (by simp; omega))
        have HT5 := Lib.hid ((Blk.new wr [.func (.func 76) #[] #[], .func (.func 77) #[] #[]] 106).below hL5 (by simp))
        clear hL5 hw A0 A1 A2 A3 A4 A5 A6 A7 A8 A9 A10 A11 c0 c1 c2 c3 c4 c5 c6 c7 s0 s1
        have d0 := HF5.out.cell 0
        have d1 := HF5.out.cell 1
        have d2 := HF5.out.cell 2
        have d3 := HF5.out.cell 3
        have d4 := HF5.out.cell 4
        have d5 := HF5.out.cell 5
        have d6 := HF5.out.cell 6
        have d7 := HF5.out.cell 7
        simp only [Fm.cells, List.getElem?_cons_zero, List.getElem?_cons_succ] at d0 d1 d2 d3 d4 d5 d6 d7
        have t0 := HT5.out.cell 0
        have t1 := HT5.out.cell 1
        simp only [List.getElem?_cons_zero, List.getElem?_cons_succ] at t0 t1
        go_wp2_with fail
        go_roundw
        case rel => exact ⟨3, by omega, rfl, HK5.out, HF5.out, HS5.out, HA5.out⟩
        case measure => simp [intOf]
    · have HA := Lib.hid (HFr.out.alloc (Obj.cells #[.func (.func 78) #[] #[], .func (.func 79) #[] #[]] 106))
      by_cases hkf : fa = 3
      · subst hkf
        rw [show decide (3 = 3) = true from rfl] at hw
        go_wp2_with fail
        refine (when3 (Fm.mk c hf ⟨ch, lo, wa, re, by_, nx⟩) g _ a room HA.out).mono ?_
        rw [hw]
        rintro e w5 ⟨rfl, hL5⟩
        have HK5 := Lib.hid ((HKr.out.alloc (Obj.cells #[.func (.func 78) #[] #[], .func (.func 79) #[] #[]] 106)).below hL5 (by simp; omega))
        have HF5 := Lib.hid ((HFr.out.alloc (Obj.cells #[.func (.func 78) #[] #[], .func (.func 79) #[] #[]] 106)).below hL5 (by simp; omega))
        have HS5 := Lib.hid ((HSr.out.alloc (Obj.cells #[.func (.func 78) #[] #[], .func (.func 79) #[] #[]] 106)).below hL5 (by simp; omega))
        have HA5 := Lib.hid ((HAr.out.alloc (Obj.cells #[.func (.func 78) #[] #[], .func (.func 79) #[] #[]] 106)).below hL5 (by simp; omega))
        have HT5 := Lib.hid ((Blk.new wr [.func (.func 78) #[] #[], .func (.func 79) #[] #[]] 106).below hL5 (by simp))
        clear hL5 hw A0 A1 A2 A3 A4 A5 A6 A7 A8 A9 A10 A11 c0 c1 c2 c3 c4 c5 c6 c7 s0 s1
        have d0 := HF5.out.cell 0
        have d1 := HF5.out.cell 1
        have d2 := HF5.out.cell 2
        have d3 := HF5.out.cell 3
        have d4 := HF5.out.cell 4
        have d5 := HF5.out.cell 5
        have d6 := HF5.out.cell 6
        have d7 := HF5.out.cell 7
        simp only [Fm.cells, List.getElem?_cons_zero, List.getElem?_cons_succ] at d0 d1 d2 d3 d4 d5 d6 d7
        have t0 := HT5.out.cell 0
        have t1 := HT5.out.cell 1
        simp only [List.getElem?_cons_zero, List.getElem?_cons_succ] at t0 t1
        go_wp2_with fail
        refine still_tail 5 (by kernel_rfl) (by kernel_rfl) ?_
        simp only [List.take_succ_cons, List.take_zero, List.drop_succ_cons, List.drop_zero]
        repeat still_step
        refine wpStill_nil ?_
        go_wp2_with fail
        refine (do3 (Fm.mk c hf ⟨ch, lo, wa, re, by_, nx⟩) g _ HF5.out.drew).mono ?_
        rintro e w7 ⟨rfl, hK7, hF7⟩
        have HK7 := Lib.hid (HK5.out.drew.trans hK7)
        have HF7 := Lib.hid hF7
        clear hK7 hF7 t0 t1 d0 d1 d2 d3 d4 d5 d6 d7
        have d0 := HF7.out.cell 0
        have d1 := HF7.out.cell 1
        have d2 := HF7.out.cell 2
        have d3 := HF7.out.cell 3
        have d4 := HF7.out.cell 4
        have d5 := HF7.out.cell 5
        have d6 := HF7.out.cell 6
        have d7 := HF7.out.cell 7
        simp only [Fm.cells, doF, List.getElem?_cons_zero, List.getElem?_cons_succ] at d0 d1 d2 d3 d4 d5 d6 d7
        go_wp2_with fail
        go_ret2
        refine ⟨?_, HK7.out, HF7.out⟩
        first
          | rfl
          | (simp [doF]; done)
          | (simp [doF]; rfl)
      · have hlt6 : 3 < fa := by omega
        rw [show decide (3 = fa) = false by simp; omega] at hw
        go_wp2_with fail
        refine (when3 (Fm.mk c hf ⟨ch, lo, wa, re, by_, nx⟩) g _ a room HA.out).mono ?_
        rw [hw]
        rintro e w5 ⟨rfl, hL5⟩
        have HK5 := Lib.hid ((HKr.out.alloc (Obj.cells #[.func (.func 78) #[] #[], .func (.func 79) #[] #[]] 106)).below hL5 (by simp; omega))
        have HF5 := Lib.hid ((HFr.out.alloc (Obj.cells #[.func (.func 78) #[] #[], .func (.func 79) #[] #[]] 106)).below hL5 (by simp; omega))
        have HS5 := Lib.hid ((HSr.out.alloc (Obj.cells #[.func (.func 78) #[] #[], .func (.func 79) #[] #[]] 106)).below hL5 (by simp; omega))
        have HA5 := Lib.hid ((HAr.out.alloc (Obj.cells #[.func (.func 78) #[] #[], .func (.func 79) #[] #[]] 106)).below hL5 (by simp; omega))
        have HT5 := Lib.hid ((Blk.new wr [.func (.func 78) #[] #[], .func (.func 79) #[] #[]] 106).below hL5 (by simp))
        clear hL5 hw A0 A1 A2 A3 A4 A5 A6 A7 A8 A9 A10 A11 c0 c1 c2 c3 c4 c5 c6 c7 s0 s1
        have d0 := HF5.out.cell 0
        have d1 := HF5.out.cell 1
        have d2 := HF5.out.cell 2
        have d3 := HF5.out.cell 3
        have d4 := HF5.out.cell 4
        have d5 := HF5.out.cell 5
        have d6 := HF5.out.cell 6
        have d7 := HF5.out.cell 7
        simp only [Fm.cells, List.getElem?_cons_zero, List.getElem?_cons_succ] at d0 d1 d2 d3 d4 d5 d6 d7
        have t0 := HT5.out.cell 0
        have t1 := HT5.out.cell 1
        simp only [List.getElem?_cons_zero, List.getElem?_cons_succ] at t0 t1
        go_wp2_with fail
        go_roundw
        case rel => exact ⟨4, by omega, rfl, HK5.out, HF5.out, HS5.out, HA5.out⟩
        case measure => simp [intOf]
    · have HA := Lib.hid (HFr.out.alloc (Obj.cells #[.func (.func 80) #[] #[], .func (.func 81) #[] #[]] 106))
      by_cases hkf : fa = 4
      · subst hkf
        rw [show decide (4 = 4) = true from rfl] at hw
        go_wp2_with fail
        refine (when4 (Fm.mk c hf ⟨ch, lo, wa, re, by_, nx⟩) g _ a room HA.out (by simp only; omega) (by simp only; omega)).mono ?_
        rw [hw]
        rintro e w5 ⟨rfl, hL5⟩
        have HK5 := Lib.hid ((HKr.out.alloc (Obj.cells #[.func (.func 80) #[] #[], .func (.func 81) #[] #[]] 106)).below hL5 (by simp; omega))
        have HF5 := Lib.hid ((HFr.out.alloc (Obj.cells #[.func (.func 80) #[] #[], .func (.func 81) #[] #[]] 106)).below hL5 (by simp; omega))
        have HS5 := Lib.hid ((HSr.out.alloc (Obj.cells #[.func (.func 80) #[] #[], .func (.func 81) #[] #[]] 106)).below hL5 (by simp; omega))
        have HA5 := Lib.hid ((HAr.out.alloc (Obj.cells #[.func (.func 80) #[] #[], .func (.func 81) #[] #[]] 106)).below hL5 (by simp; omega))
        have HT5 := Lib.hid ((Blk.new wr [.func (.func 80) #[] #[], .func (.func 81) #[] #[]] 106).below hL5 (by simp))
        clear hL5 hw A0 A1 A2 A3 A4 A5 A6 A7 A8 A9 A10 A11 c0 c1 c2 c3 c4 c5 c6 c7 s0 s1
        have d0 := HF5.out.cell 0
        have d1 := HF5.out.cell 1
        have d2 := HF5.out.cell 2
        have d3 := HF5.out.cell 3
        have d4 := HF5.out.cell 4
        have d5 := HF5.out.cell 5
        have d6 := HF5.out.cell 6
        have d7 := HF5.out.cell 7
        simp only [Fm.cells, List.getElem?_cons_zero, List.getElem?_cons_succ] at d0 d1 d2 d3 d4 d5 d6 d7
        have t0 := HT5.out.cell 0
        have t1 := HT5.out.cell 1
        simp only [List.getElem?_cons_zero, List.getElem?_cons_succ] at t0 t1
        go_wp2_with fail
        refine still_tail 5 (by kernel_rfl) (by kernel_rfl) ?_
        simp only [List.take_succ_cons, List.take_zero, List.drop_succ_cons, List.drop_zero]
        repeat still_step
        refine wpStill_nil ?_
        go_wp2_with fail
        refine (do4 (Fm.mk c hf ⟨ch, lo, wa, re, by_, nx⟩) g _ HF5.out.drew).mono ?_
        rintro e w7 ⟨rfl, hK7, hF7⟩
        have HK7 := Lib.hid (HK5.out.drew.trans hK7)
        have HF7 := Lib.hid hF7
        clear hK7 hF7 t0 t1 d0 d1 d2 d3 d4 d5 d6 d7
        have d0 := HF7.out.cell 0
        have d1 := HF7.out.cell 1
        have d2 := HF7.out.cell 2
        have d3 := HF7.out.cell 3
        have d4 := HF7.out.cell 4
        have d5 := HF7.out.cell 5
        have d6 := HF7.out.cell 6
        have d7 := HF7.out.cell 7
        simp only [Fm.cells, doF, List.getElem?_cons_zero, List.getElem?_cons_succ] at d0 d1 d2 d3 d4 d5 d6 d7
        go_wp2_with fail
        go_ret2
        refine ⟨?_, HK7.out, HF7.out⟩
        first
          | rfl
          | (simp [doF]; done)
          | (simp [doF]; rfl)
      · have hlt6 : 4 < fa := by omega
        rw [show decide (4 = fa) = false by simp; omega] at hw
        go_wp2_with fail
        refine (when4 (Fm.mk c hf ⟨ch, lo, wa, re, by_, nx⟩) g _ a room HA.out (by simp only; omega) (by simp only; omega)).mono ?_
        rw [hw]
        rintro e w5 ⟨rfl, hL5⟩
        have HK5 := Lib.hid ((HKr.out.alloc (Obj.cells #[.func (.func 80) #[] #[], .func (.func 81) #[] #[]] 106)).below hL5 (by simp; omega))
        have HF5 := Lib.hid ((HFr.out.alloc (Obj.cells #[.func (.func 80) #[] #[], .func (.func 81) #[] #[]] 106)).below hL5 (by simp; omega))
        have HS5 := Lib.hid ((HSr.out.alloc (Obj.cells #[.func (.func 80) #[] #[], .func (.func 81) #[] #[]] 106)).below hL5 (by simp; omega))
        have HA5 := Lib.hid ((HAr.out.alloc (Obj.cells #[.func (.func 80) #[] #[], .func (.func 81) #[] #[]] 106)).below hL5 (by simp; omega))
        have HT5 := Lib.hid ((Blk.new wr [.func (.func 80) #[] #[], .func (.func 81) #[] #[]] 106).below hL5 (by simp))
        clear hL5 hw A0 A1 A2 A3 A4 A5 A6 A7 A8 A9 A10 A11 c0 c1 c2 c3 c4 c5 c6 c7 s0 s1
        have d0 := HF5.out.cell 0
        have d1 := HF5.out.cell 1
        have d2 := HF5.out.cell 2
        have d3 := HF5.out.cell 3
        have d4 := HF5.out.cell 4
        have d5 := HF5.out.cell 5
        have d6 := HF5.out.cell 6
        have d7 := HF5.out.cell 7
        simp only [Fm.cells, List.getElem?_cons_zero, List.getElem?_cons_succ] at d0 d1 d2 d3 d4 d5 d6 d7
        have t0 := HT5.out.cell 0
        have t1 := HT5.out.cell 1
        simp only [List.getElem?_cons_zero, List.getElem?_cons_succ] at t0 t1
        go_wp2_with fail
        go_roundw
        case rel => exact ⟨5, by omega, rfl, HK5.out, HF5.out, HS5.out, HA5.out⟩
        case measure => simp [intOf]
    · have HA := Lib.hid (HFr.out.alloc (Obj.cells #[.func (.func 82) #[] #[], .func (.func 83) #[] #[]] 106))
      by_cases hkf : fa = 5
      · subst hkf
        rw [show decide (5 = 5) = true from rfl] at hw
        go_wp2_with fail
        refine (when5 (Fm.mk c hf ⟨ch, lo, wa, re, by_, nx⟩) g _ a room).mono ?_
        rw [hw]
        rintro e w5 ⟨rfl, hL5⟩
        have HK5 := Lib.hid ((HKr.out.alloc (Obj.cells #[.func (.func 82) #[] #[], .func (.func 83) #[] #[]] 106)).below hL5 (by simp; omega))
        have HF5 := Lib.hid ((HFr.out.alloc (Obj.cells #[.func (.func 82) #[] #[], .func (.func 83) #[] #[]] 106)).below hL5 (by simp; omega))
        have HS5 := Lib.hid ((HSr.out.alloc (Obj.cells #[.func (.func 82) #[] #[], .func (.func 83) #[] #[]] 106)).below hL5 (by simp; omega))
        have HA5 := Lib.hid ((HAr.out.alloc (Obj.cells #[.func (.func 82) #[] #[], .func (.func 83) #[] #[]] 106)).below hL5 (by simp; omega))
        have HT5 := Lib.hid ((Blk.new wr [.func (.func 82) #[] #[], .func (.func 83) #[] #[]] 106).below hL5 (by simp))
        clear hL5 hw A0 A1 A2 A3 A4 A5 A6 A7 A8 A9 A10 A11 c0 c1 c2 c3 c4 c5 c6 c7 s0 s1
        have d0 := HF5.out.cell 0
        have d1 := HF5.out.cell 1
        have d2 := HF5.out.cell 2
        have d3 := HF5.out.cell 3
        have d4 := HF5.out.cell 4
        have d5 := HF5.out.cell 5
        have d6 := HF5.out.cell 6
        have d7 := HF5.out.cell 7
        simp only [Fm.cells, List.getElem?_cons_zero, List.getElem?_cons_succ] at d0 d1 d2 d3 d4 d5 d6 d7
        have t0 := HT5.out.cell 0
        have t1 := HT5.out.cell 1
        simp only [List.getElem?_cons_zero, List.getElem?_cons_succ] at t0 t1
        go_wp2_with fail
        refine still_tail 5 (by kernel_rfl) (by kernel_rfl) ?_
        simp only [List.take_succ_cons, List.take_zero, List.drop_succ_cons, List.drop_zero]
        repeat still_step
        refine wpStill_nil ?_
        go_wp2_with fail
        refine (do5 (Fm.mk c hf ⟨ch, lo, wa, re, by_, nx⟩) g _ HF5.out.drew).mono ?_
        rintro e w7 ⟨rfl, hK7, hF7⟩
        have HK7 := Lib.hid (HK5.out.drew.trans hK7)
        have HF7 := Lib.hid hF7
        clear hK7 hF7 t0 t1 d0 d1 d2 d3 d4 d5 d6 d7
        have d0 := HF7.out.cell 0
        have d1 := HF7.out.cell 1
        have d2 := HF7.out.cell 2
        have d3 := HF7.out.cell 3
        have d4 := HF7.out.cell 4
        have d5 := HF7.out.cell 5
        have d6 := HF7.out.cell 6
        have d7 := HF7.out.cell 7
        simp only [Fm.cells, doF, List.getElem?_cons_zero, List.getElem?_cons_succ] at d0 d1 d2 d3 d4 d5 d6 d7
        go_wp2_with fail
        go_ret2
        refine ⟨?_, HK7.out, HF7.out⟩
        first
          | rfl
          | (simp [doF]; done)
          | (simp [doF]; rfl)
      · exfalso; omega
theorem Take_any (f : Fm) (x : Tc) (room : Bool) (g : Nat) (w : World) (hok : f.ok) (hB : Blk w g f.cells 80) :
    Calls Tryz.prog 18 #[.pointer (some ⟨g, 0, none⟩), x.val, .bool room] w fun e w' => e = .returned (.tuple #[.bool (takeF f x room).2.1, .int .i64 (takeF f x room).2.2]) ∧ Keep [g] w w' ∧ Blk w' g (takeF f x room).1.cells 80 := by
  obtain ⟨c, ch, b, k, s, d⟩ := x
  obtain ⟨cr, hf, ⟨fc, lo, wa, re, by_, nx⟩⟩ := f
  cases hg : (Tc.mk c ch b k s d).good
  · rw [show takeF (Fm.mk cr hf ⟨fc, lo, wa, re, by_, nx⟩) (Tc.mk c ch b k s d) room = (Fm.mk cr hf ⟨fc, lo, wa, re, by_, nx⟩, false, 2) by unfold takeF; rw [hg]; rfl]
    exact Take_bad c ch b k s d cr hf fc lo wa re by_ nx room g w hok hB hg
  by_cases h1 : c = cr
  case neg =>
    rw [show takeF (Fm.mk cr hf ⟨fc, lo, wa, re, by_, nx⟩) (Tc.mk c ch b k s d) room = (Fm.mk cr hf ⟨fc, lo, wa, re, by_, nx⟩, false, 2) by unfold takeF; rw [hg, if_neg (by simp [h1])]]
    exact Take_craft c ch b k s d cr hf fc lo wa re by_ nx room g w hok hB hg (by simpa using h1)
  by_cases h2 : ch = fc
  case neg =>
    rw [show takeF (Fm.mk cr hf ⟨fc, lo, wa, re, by_, nx⟩) (Tc.mk c ch b k s d) room = (Fm.mk cr hf ⟨fc, lo, wa, re, by_, nx⟩, false, 2) by unfold takeF; rw [hg, if_neg (by simp [h2])]]
    exact Take_chan c ch b k s d cr hf fc lo wa re by_ nx room g w hok hB hg h1 (by simpa using h2)
  subst h1 h2
  cases b
  · rw [show takeF (Fm.mk c hf ⟨ch, lo, wa, re, by_, nx⟩) (Tc.mk c ch false k s d) room = (doF (Fm.mk c hf ⟨ch, lo, wa, re, by_, nx⟩) (firstAct (Fm.mk c hf ⟨ch, lo, wa, re, by_, nx⟩) ((s - nx) % 256) room), (doF (Fm.mk c hf ⟨ch, lo, wa, re, by_, nx⟩) (firstAct (Fm.mk c hf ⟨ch, lo, wa, re, by_, nx⟩) ((s - nx) % 256) room)).st.next != nx, 0) by unfold takeF; rw [hg, if_pos (by simp)]; rfl]
    exact Take_seq c ch k s d hf lo wa re by_ nx room g w hok hB hg
  · rw [show takeF (Fm.mk c hf ⟨ch, lo, wa, re, by_, nx⟩) (Tc.mk c ch true k s d) room = bypassF (Fm.mk c hf ⟨ch, lo, wa, re, by_, nx⟩) (Tc.mk c ch true k s d) by unfold takeF; rw [hg, if_pos (by simp)]; rfl]
    exact Take_by c ch k s d hf lo wa re by_ nx room g w hok hB hg
end
section
open Go.RowKit
section
/-- The next frame, and the state behind it. -/
def nextF (s : Fs) : Fs × Option Tc :=
  match s.byp with
  | d :: l => ({ s with byp := l }, some ⟨s.craft, s.chan, true, false, 0, d⟩)
  | [] =>
    if s.service ≠ 2 ∨ s.held = true then (s, none) else
    match s.sent.findIdx? (·.mark) with
    | some j => ({ s with sent := s.sent.set j ⟨(s.sent.getD j ⟨0, ⟨#[]⟩, false⟩).id, (s.sent.getD j ⟨0, ⟨#[]⟩, false⟩).data, false⟩ }, some ⟨s.craft, s.chan, false, false, (s.base + j) % 256, (s.sent.getD j ⟨0, ⟨#[]⟩, false⟩).data⟩)
    | none =>
      match s.waiting with
      | [] => (s, none)
      | u :: l => if s.window ≤ (s.sent.length : Int) then (s, none) else (newSent s u l, some ⟨s.craft, s.chan, false, false, (s.base + s.sent.length) % 256, u.data⟩)
/-- What the contracts ask of the state. -/
structure Fs.fine (s : Fs) : Prop where
  win : s.window ≠ 0
  due : s.due = false
  susp : s.susp = false
  base0 : 0 ≤ s.base
  base1 : s.base ≤ 255
  sent : s.sent.length ≤ 127
  wait : s.waiting.length ≤ 256
  byp : s.byp.length ≤ 256
  ev : s.events = []
def tcV (x : Option Tc) : Value := match x with | some y => .agg #[.int .i64 y.craft, .int .i64 y.chan, .bool y.byp, .bool y.ctl, .int .i64 y.seq, .string y.data] | none => .agg #[.int .i64 0, .int .i64 0, .bool false, .bool false, .int .i64 0, .string ⟨#[]⟩]
theorem Next_all (s : Fs) (g : Nat) (S : List Nat) (w : World) (hf : s.fine) (hl : ∀ i ∈ S, i < w.heap.size) (h : FopIn w g S s) :
    Calls Tryz.prog 33 #[.pointer (some ⟨g, 0, none⟩)] w fun e w' => e = .returned (.tuple #[tcV (nextF s).2, .bool (nextF s).2.isSome]) ∧ FopTo w w' g S (nextF s).1 := by
  have hs := hf.sent; have hw := hf.wait
  unfold nextF
  split
  · rename_i d l hb
    have := hf.byp
    rw [hb] at this
    exact Next_byp s g S w d l hl hf.due hf.susp hb (by simp at this; omega) hf.win h
  · rename_i hb
    split
    · rename_i hd
      exact Next_down s g S w hl hf.due hf.susp hb hd hf.win h
    · rename_i hd
      have hsv : s.service = 2 := by
        by_cases e : s.service = 2
        · exact e
        · exact absurd (.inl e) hd
      have hhe : s.held = false := by
        cases e : s.held
        · rfl
        · exact absurd (.inr e) hd
      split
      · rename_i j hj
        obtain ⟨hlt, hm, hm0⟩ := List.findIdx?_eq_some_iff_getElem.1 hj
        have hg : s.sent.getD j ⟨0, ⟨#[]⟩, false⟩ = s.sent[j] := by rw [List.getD_eq_getElem?_getD, List.getElem?_eq_getElem hlt]; rfl
        rw [hg]
        exact Next_marked s g S w j hlt hm (fun k hk => by simpa using hm0 k hk) hf.base0 hf.base1 hs hl hf.due hf.susp hb hsv hhe hf.win h
      · rename_i hj
        have hm0 : ∀ u ∈ s.sent, u.mark = false := by
          intro u hu
          have := List.findIdx?_eq_none_iff.1 hj u hu
          simpa using this
        have hmk : ∀ k, (hk : k < s.sent.length) → s.sent[k].mark = false := fun k hk => hm0 _ (List.getElem_mem hk)
        split
        · rename_i hwt
          exact Next_full s g S w hmk hs hl hf.due hf.susp hb hsv hhe (.inr hwt) hf.win h
        · rename_i u l hwt
          split
          · rename_i hfull
            exact Next_full s g S w hmk hs hl hf.due hf.susp hb hsv hhe (.inl hfull) hf.win h
          · rename_i hfull
            exact Next_new s g S w u l hwt (by rw [hwt] at hw; simp at hw; omega) hf.base0 hf.base1 hmk hs hl hf.due hf.susp hb hsv hhe (by omega) hf.win h
def tickF (s : Fs) (by_ : Int) : Fs × List Ev :=
  if s.service = 0 ∨ s.service = 2 ∧ s.sent = [] then (s, [])
  else if 0 < s.clock - by_ then ({ s with clock := s.clock - by_ }, [])
  else if s.limit ≤ s.tries then ({ alertF { s with clock := s.clock - by_ } 1 with events := [] }, [⟨3, 0, 1⟩])
  else (againF s, [])
theorem Pt.of {w W : World} {g : Nat} {S : List Nat} {s : Fs} (h : FopTo w W g S s) : ∃ S', Pt w W g S S' s ∧ Given w W S S' [] (.slice none 0 0) := by
  obtain ⟨S', h1, h2, h3⟩ := h
  exact ⟨S', ⟨h1, h2, h3⟩, q_nil _ _ _ _, fun k hk => by cases hk⟩
theorem Tick_all (s : Fs) (by_ : Int) (g : Nat) (S : List Nat) (w : World) (hf : s.fine) (hs : s.service = 0 ∨ s.service = 1 ∨ s.service = 2) (h0 : 0 ≤ by_) (h1 : by_ ≤ 1073741824) (hc0 : -4000000000000000000 ≤ s.clock) (hc1 : s.clock ≤ 4000000000000000000) (ht0 : 0 ≤ s.tries) (ht1 : s.tries ≤ 1000) (h : FopIn w g S s) :
    Calls Tryz.prog 11 #[.pointer (some ⟨g, 0, none⟩), .int .i64 by_] w fun e w' => ∃ v S', e = .returned (.tuple #[v, .int .i64 0]) ∧ Pt w w' g S S' (tickF s by_).1 ∧ Given w w' S S' (tickF s by_).2 v := by
  have hlen := hf.sent
  unfold tickF
  split
  · rename_i hi
    refine (Tick_idle s g S w by_ h0 h1 hf.susp hi hf.win h).mono ?_
    rintro e w' ⟨rfl, rfl⟩
    obtain ⟨S', a, b⟩ := Pt.of (FopTo.refl h)
    exact ⟨_, S', rfl, a, b⟩
  · rename_i hi
    have hb : s.service = 1 ∨ s.service = 2 ∧ 0 < s.sent.length := by
      rcases hs with e | e | e
      · exact absurd (.inl e) hi
      · exact .inl e
      · refine .inr ⟨e, List.length_pos_iff.2 fun e2 => hi (.inr ⟨e, e2⟩)⟩
    split
    · rename_i hc
      refine (Tick_wait s g S w by_ h0 h1 hf.susp hb hc0 hc1 hc hf.win h).mono ?_
      rintro e w' ⟨rfl, hT⟩
      obtain ⟨S', a, b⟩ := Pt.of hT
      exact ⟨_, S', rfl, a, b⟩
    · rename_i hc
      split
      · rename_i hl
        have := Tick_alert s g S w by_ h0 h1 hf.susp hb hc0 hc1 (by omega) hl (by rw [hf.ev]; simp) hf.win h
        rw [hf.ev] at this
        exact this
      · rename_i hl
        refine (Tick_again s g S w by_ h0 h1 hf.susp hb hc0 hc1 (by omega) (by omega) ht0 ht1 (by omega) hf.win h).mono ?_
        rintro e w' ⟨rfl, hT⟩
        obtain ⟨S', a, b⟩ := Pt.of hT
        exact ⟨_, S', rfl, a, b⟩
end
section
section
variable {k n0 L : Nat} {tm : Int} {ups : List (Option Nat)} {b : Nat}
end
end
section
section
variable {k n0 L : Nat} {tm : Int} {ups : List (Option Nat)} {b : Nat}
end
end
section
section
variable {k n0 L : Nat} {tm : Int} {ups : List (Option Nat)} {b : Nat}
end
end
section
section
variable {k n0 L : Nat} {tm : Int} {ups : List (Option Nat)} {b : Nat}
end
end
end
section
open Go.RowKit
def tcRow (l : List Tc) : List Value := l.flatMap Tc.cells
def u32Row (l : List Nat) : List Value := l.map fun (n : Nat) => Value.int .u32 (n : Int)
/-- A block as a value, to speak of it as of a row. -/
def bv (g : Nat) : Value := .slice (some ⟨g, 0, none⟩) 0 0
theorem Fx.lt {w W : World} {g : Nat} {R : List Nat} {s : Fs} (h : Fx w W g R s) : ∀ r ∈ R, w.heap.size ≤ r ∧ r < W.heap.size := by
  obtain ⟨_, _, _, h3⟩ := h
  exact fun r hr => ⟨(h3 r hr).1, (h3 r hr).2.1⟩
theorem Fx.swap {w W W' : World} {g : Nat} {R R' T : List Nat} {s : Fs} (h : Fx w W g R s) (k : Keep T W W') (hT : ∀ i ∈ T, i ∈ R ∨ W.heap.size ≤ i) (hR : ∀ r ∈ R', (r ∈ R ∨ W.heap.size ≤ r) ∧ r < W'.heap.size) : Fx w W' g R' s := by
  have hz := h.size
  obtain ⟨S1, h1, h2, h3⟩ := h
  have hn : ∀ i ∈ S1, i < W.heap.size → i ∉ T := fun i hi hl hm => by
    rcases hT i hm with e | e
    · exact (h3 i e).2.2 hi
    · omega
  refine ⟨S1, ⟨h1.in_.keep k hn, h1.keep.trans_new k (fun i hi => ?_), h1.new⟩, fun i hi => Nat.lt_of_lt_of_le (h2 i hi) k.size, fun r hr => ?_⟩
  · rcases hT i hi with e | e
    · exact .inr (h3 i e).1
    · exact .inr (Nat.le_trans hz e)
  · obtain ⟨hr1, hr2⟩ := hR r hr
    rcases hr1 with e | e
    · exact ⟨(h3 r e).1, hr2, (h3 r e).2.2⟩
    · exact ⟨by omega, hr2, fun hm => by have := h2 r hm; omega⟩
theorem row_far {a v : Value} {P : Nat} (h1 : Far (bv P) a) (h2 : Far v a) : ∀ x, a.ownBlock = some x → x ∉ P :: v.ownBlock.toList := by
  intro x hx hm
  rcases List.mem_cons.1 hm with e | e
  · subst e; exact h1 x rfl hx
  · exact h2 x (by simpa using e) hx
end
end Go.Proofs.YtgopighmifpefaaGreatDoor
