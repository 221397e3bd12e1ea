/- What is proved here: a part of the proof of TopLink (texts Lt A6 Ak3f Ak3l). No condition. -/
import Derived.Deep.RegionHeld3
import Derived.Deep.RegionWith
import Derived.Test.YtgopighmifpefaaGreatDoorPart13
import Derived.Test.YtgopighmifpefaaGreatDoorPart19
import Derived.Test.YtgopighmifpefaaGreatDoorPart24
set_option linter.unusedVariables false
set_option linter.unusedSimpArgs false
namespace Go.Proofs.YtgopighmifpefaaGreatDoor
section
open Go.RowKit
instance tcDec : DecidableEq Tc := fun a b =>
  match a, b with
  | ⟨a1, a2, a3, a4, a5, a6⟩, ⟨b1, b2, b3, b4, b5, b6⟩ =>
    if h : a1 = b1 ∧ a2 = b2 ∧ a3 = b3 ∧ a4 = b4 ∧ a5 = b5 ∧ a6 = b6 then isTrue (by obtain ⟨h1, h2, h3, h4, h5, h6⟩ := h; rw [h1, h2, h3, h4, h5, h6])
    else isFalse (fun e => h (by injection e with e1 e2 e3 e4 e5 e6; exact ⟨e1, e2, e3, e4, e5, e6⟩))
def arrS (x : Tc) : Ls → List ByteArray → Ls
  | l, [] => { l with before := x }
  | l, D :: ds => match frontT D with
    | none => arrS x l ds
    | some y => if y = x ∨ y = l.before then arrS x (takeS l y) ds else { l with odd := true }
def ArrOk (x : Tc) : Ls → List ByteArray → Prop
  | _, [] => True
  | l, D :: ds => match frontT D with
    | none => ArrOk x l ds
    | some y => if y = x ∨ y = l.before then TakePre l y ∧ ArrOk x (takeS l y) ds else True
/-- Behind the first of the things found no frame of the link comes. -/
theorem arr_tail (x : Tc) (l : Ls) : ∀ ds : List ByteArray, (∀ D ∈ ds, ∀ y, frontT D = some y → y ≠ x ∧ y ≠ l.before) → ArrOk x l ds ∧ (arrS x l ds = { l with before := x } ∨ arrS x l ds = { l with odd := true })
  | [], _ => ⟨trivial, .inl rfl⟩
  | D :: ds, h => by
    have ih := arr_tail x l ds (fun D' hD => h D' (List.mem_cons_of_mem _ hD))
    unfold ArrOk arrS
    cases e : frontT D with
    | none => exact ih
    | some y =>
      obtain ⟨h1, h2⟩ := h D (by simp) y e
      have hn : ¬ (y = x ∨ y = l.before) := fun h => h.elim h1 h2
      refine ⟨?_, .inr ?_⟩ <;> simp [hn]
theorem zero_bad : Tc.zero.good = false := by decide
section
variable {k n0 : Nat} {l : Ls} {pks : List (Nat × Nat)} {ups : List Nat} {dws : List Lk.Dw} {b N : Nat} {bo : Option Nat}
/-- The state when a unit is taken from the way. -/
def popS (l : Ls) (ps : Ps) : Ls := { l with frames := l.frames.tail, units := l.units.tail, ps := { ps with found := [] } }
theorem takeS_same (l : Ls) (y : Tc) : (takeS l y).s = l.s ∧ (takeS l y).frames = l.frames ∧ (takeS l y).units = l.units ∧ (takeS l y).words = l.words ∧ (takeS l y).sent = l.sent ∧ (takeS l y).ps = l.ps ∧ (takeS l y).odd = l.odd ∧ (takeS l y).bad = l.bad ∧ (takeS l y).before = l.before := by
  unfold takeS; split <;> exact ⟨rfl, rfl, rfl, rfl, rfl, rfl, rfl, rfl, rfl⟩
/-- The unit at the head is taken from the way and leaves nothing. -/
theorem LI.pop {i : Nat} {us : List Nat} (h : LI k n0 l pks (i :: us) dws b N bo) (ps : Ps) (hps : ps.fine) : LI k n0 { popS l ps with before := fr0 n0 (partsP pks) i } pks us dws b N (some i) := by
  have hI : Lk.Inv k n0 100 50 (prOf l (partsP pks) N b ((i :: us).map (fr0 n0 (partsP pks)))) ((i :: us).map some) dws b := by
    cases bo with
    | none => exact h.inv
    | some p => exact h.inv.tail (some p) _ rfl _ (by rw [List.map_map]; rfl)
  have hf := h.frames
  have hu := h.units
  refine { h with inv := hI, frames := ?_, units := ?_, pf := ?_, pd := rfl, bz := (fun e => by cases e), bs := (fun p e => by injection e with e; subst e; rfl), .. }
  · show l.frames.tail = _
    rw [hf]; rfl
  · show l.units.tail = l.frames.tail.map unitOf
    rw [hu, hf]; rfl
  · exact ⟨hps.1, hps.2.1, hps.2.2⟩
/-- A frame that the link knows is taken. -/
theorem LI.took {i : Nat} {us : List Nat} (h : LI k n0 l pks (i :: us) dws b N bo) (ps : Ps) (hps : ps.fine) (y : Tc) (hy : y = fr0 n0 (partsP pks) i ∨ bo ≠ none ∧ y = l.before) :
    TakePre (popS l ps) y ∧ ∃ N', LI k n0 { takeS (popS l ps) y with before := fr0 n0 (partsP pks) i } pks us dws b N' (some i) := by
  have hL := h.pop ps hps
  have hi : i < (partsP pks).length := h.lt i (by simp)
  have core : ∀ (q : Nat) (vs : List Nat), q < (partsP pks).length → y = fr0 n0 (partsP pks) q → (∀ p : Lk.Pr, Lk.Inv k n0 100 50 p ((q :: vs).map some) dws b → p.units = partsP pks → Lk.Inv k n0 100 50 { p with up := (i :: us).map (fr0 n0 (partsP pks)) } ((i :: us).map some) dws b) →
      Lk.Inv k n0 100 50 (prOf l (partsP pks) N b ((q :: vs).map (fr0 n0 (partsP pks)))) ((q :: vs).map some) dws b → TakePre (popS l ps) y ∧ ∃ N', LI k n0 { takeS (popS l ps) y with before := fr0 n0 (partsP pks) i } pks us dws b N' (some i) := by
    intro q vs hq hyq hdrop hI
    obtain ⟨t1, N', t2, t3, t4⟩ := LI.takeHead (l := { popS l ps with before := fr0 n0 (partsP pks) i }) hL q vs ((q :: vs).map (fr0 n0 (partsP pks))) hq hI
    rw [← hyq] at t1 t3 t4
    have e : takeS { popS l ps with before := fr0 n0 (partsP pks) i } y = { takeS (popS l ps) y with before := fr0 n0 (partsP pks) i } := by
      unfold takeS
      split <;> rfl
    rw [e] at t3 t4
    obtain ⟨s1, s2, s3, s4, s5, s6, s7, s8, s9⟩ := takeS_same (popS l ps) y
    have hI2 := hdrop _ t4 rfl
    refine ⟨⟨t1.ok, t1.e, t1.lock, t1.half, t1.seg⟩, N', ⟨hI2, ?_, ?_, t2, ?_, h.pk, ?_, t3, ?_, ?_, ?_, ?_, (fun e => by cases e), (fun p e => by injection e with e; subst e; rfl)⟩⟩
    · show (takeS (popS l ps) y).frames = _
      rw [s2]; exact hL.frames
    · show (takeS (popS l ps) y).units = (takeS (popS l ps) y).frames.map unitOf
      rw [s2, s3]; exact hL.units
    · show (takeS (popS l ps) y).s.byp = []
      rw [s1]; exact h.byp
    · show (takeS (popS l ps) y).sent = _
      rw [s5]; exact h.sent
    · show (takeS (popS l ps) y).ps.fine
      rw [s6]; exact hL.pf
    · show (takeS (popS l ps) y).ps.found = []
      rw [s6]; rfl
    · show (takeS (popS l ps) y).odd = false
      rw [s7]; exact h.odd
    · show (takeS (popS l ps) y).bad = false
      rw [s8]; exact h.bad
  rcases hy with hy | ⟨hb, hy⟩
  · refine core i us hi hy (fun p hp hu => ?_) ?_
    · have e1 := hp.hup
      have e2 : (i :: us).map (fr0 n0 (partsP pks)) = p.up := by rw [e1, hu, List.map_map]; rfl
      rw [e2]; exact hp
    · cases bo with
      | none => exact h.inv
      | some p => exact h.inv.tail (some p) _ rfl _ (by rw [List.map_map]; rfl)
  · cases bo with
    | none => exact absurd rfl hb
    | some p =>
      have hp : p < (partsP pks).length := h.lt p (by simp)
      refine core p (i :: us) hp (hy.trans (h.bs p rfl)) (fun q hq hu => ?_) h.inv
      exact hq.tail (some p) _ rfl _ (by rw [hu, List.map_map]; rfl)
/-- A unit arrives; up to four bits of it are wrong. -/
theorem LI.arrive {i : Nat} {us : List Nat} (h : LI k n0 l pks (i :: us) dws b N bo) (u' : List UInt8) (hlen : (putL (fr0 n0 (partsP pks) i).enc).length = u'.length) (h4 : hd (putL (fr0 n0 (partsP pks) i).enc) u' ≤ 4) :
    ArrOk (fr0 n0 (partsP pks) i) (popS l (feedP l.ps u')) (feedP l.ps u').found ∧
    ((arrS (fr0 n0 (partsP pks) i) (popS l (feedP l.ps u')) (feedP l.ps u').found).odd = true ∧ (arrS (fr0 n0 (partsP pks) i) (popS l (feedP l.ps u')) (feedP l.ps u').found).bad = false ∨
      ∃ N', LI k n0 (arrS (fr0 n0 (partsP pks) i) (popS l (feedP l.ps u')) (feedP l.ps u').found) pks us dws b N' (some i)) := by
  have hi : i < (partsP pks).length := h.lt i (by simp)
  obtain ⟨f1, f2, f3, f4⟩ := fr0_link h.pk n0 i hi
  have hfine := (feedP_fine l.ps h.pf u').1
  have hlate : ∀ (j : Nat) (D : ByteArray), 1 ≤ j → (feedP l.ps u').found[j]? = some D → ∀ y, frontT D = some y → y ≠ fr0 n0 (partsP pks) i ∧ y ≠ l.before := by
    intro j D hj hD y hy
    obtain ⟨g1, rest, g2⟩ := frontT_some D y hy
    refine ⟨fun e => ?_, fun e => ?_⟩
    · subst e
      exact embed _ _ u' rest l.ps D j f1 f1 hlen h4 h.pf h.pd hj hD g2
    · cases hb : bo with
      | none =>
        rw [h.bz hb] at e
        subst e
        rw [zero_bad] at g1
        cases g1
      | some p =>
        rw [h.bs p hb] at e
        subst e
        exact embed _ _ u' rest l.ps D j f1 (fr0_link h.pk n0 p (h.lt p (by simp [hb]))).1 hlen h4 h.pf h.pd hj hD g2
  have hbef : ∀ y, y.good = true → y = l.before → bo ≠ none := by
    intro y g e hb
    rw [h.bz hb] at e
    subst e
    rw [zero_bad] at g
    cases g
  have hpop := h.pop (feedP l.ps u') hfine
  generalize hout : (feedP l.ps u').found = outs at hlate ⊢
  generalize hl1 : popS l (feedP l.ps u') = l1 at hpop ⊢
  have hlb : l1.before = l.before := by rw [← hl1]; rfl
  have hl1o : l1.bad = false := by rw [← hl1]; exact h.bad
  cases outs with
  | nil => exact ⟨trivial, .inr ⟨N, hpop⟩⟩
  | cons D ds =>
    have htl : ∀ D' ∈ ds, ∀ y, frontT D' = some y → y ≠ fr0 n0 (partsP pks) i ∧ y ≠ l.before := by
      intro D' hD' y hy
      obtain ⟨j, hj⟩ := List.getElem?_of_mem hD'
      exact hlate (j + 1) D' (by omega) (by simpa using hj) y hy
    unfold ArrOk arrS
    cases e : frontT D with
    | none =>
      simp only
      obtain ⟨t1, t2⟩ := arr_tail (fr0 n0 (partsP pks) i) l1 ds (by rw [hlb]; exact htl)
      refine ⟨t1, ?_⟩
      rcases t2 with t2 | t2
      · rw [t2]; exact .inr ⟨N, hpop⟩
      · rw [t2]; exact .inl ⟨rfl, hl1o⟩
    | some y =>
      simp only
      obtain ⟨g1, -⟩ := frontT_some D y e
      by_cases hc : y = fr0 n0 (partsP pks) i ∨ y = l1.before
      · rw [if_pos hc, if_pos hc]
        have hy : y = fr0 n0 (partsP pks) i ∨ bo ≠ none ∧ y = l.before := by
          rcases hc with e | e
          · exact .inl e
          · rw [hlb] at e
            exact .inr ⟨hbef y g1 e, e⟩
        obtain ⟨p1, N', p2⟩ := h.took (feedP l.ps u') hfine y hy
        rw [hl1] at p1 p2
        obtain ⟨s1, s2, s3, s4, s5, s6, s7, s8, s9⟩ := takeS_same l1 y
        obtain ⟨t1, t2⟩ := arr_tail (fr0 n0 (partsP pks) i) (takeS l1 y) ds (by rw [s9, hlb]; exact htl)
        refine ⟨⟨p1, t1⟩, ?_⟩
        rcases t2 with t2 | t2
        · rw [t2]; exact .inr ⟨N', p2⟩
        · rw [t2]; exact .inl ⟨rfl, by show (takeS l1 y).bad = false; rw [s8]; exact hl1o⟩
      · rw [if_neg hc, if_neg hc]
        exact ⟨trivial, .inl ⟨rfl, hl1o⟩⟩
end
end
section
open Go.RowKit
section
variable (w : World)
set_option maxRecDepth 100000
theorem run_tab0 : (Instr.index 177 (.agg #[.func (.func 110) #[] #[], .func (.func 111) #[] #[], .func (.func 112) #[] #[], .func (.func 113) #[] #[]]) (.int .u8 0)).run Tryz.prog w = .ok (.func (.func 110) #[] #[]) w := by simp [Instr.index, run_underlying Tryz.underlying177, asIntOf, go_sem]
theorem run_tab1 : (Instr.index 177 (.agg #[.func (.func 110) #[] #[], .func (.func 111) #[] #[], .func (.func 112) #[] #[], .func (.func 113) #[] #[]]) (.int .u8 1)).run Tryz.prog w = .ok (.func (.func 111) #[] #[]) w := by simp [Instr.index, run_underlying Tryz.underlying177, asIntOf, go_sem]
theorem run_tab2 : (Instr.index 177 (.agg #[.func (.func 110) #[] #[], .func (.func 111) #[] #[], .func (.func 112) #[] #[], .func (.func 113) #[] #[]]) (.int .u8 2)).run Tryz.prog w = .ok (.func (.func 112) #[] #[]) w := by simp [Instr.index, run_underlying Tryz.underlying177, asIntOf, go_sem]
theorem run_tab3 : (Instr.index 177 (.agg #[.func (.func 110) #[] #[], .func (.func 111) #[] #[], .func (.func 112) #[] #[], .func (.func 113) #[] #[]]) (.int .u8 3)).run Tryz.prog w = .ok (.func (.func 113) #[] #[]) w := by simp [Instr.index, run_underlying Tryz.underlying177, asIntOf, go_sem]
end
end
section
open Go.RowKit
attribute [local go_sem] run_tab0 run_tab1 run_tab2 run_tab3
set_option maxHeartbeats 4000000 in
set_option maxRecDepth 100000 in
theorem Feed_kf (s : ByteArray) (a : Nat) (op op2 p1 p3 : Bool) (v : Value) (xs xs2 : List UInt8) (p2 : ByteArray) (w : World) (h1 : 2 ≤ s.size) (h2 : s.size ≤ 200) (hz : (s[0]'(by omega)).toNat = 64) (hA : AsmV w a op v xs)
    (hc : ∀ W, AsmV W a op v xs → Calls Tryz.prog 111 #[.pointer (some ⟨a, 0, none⟩), .string (s.extract 1 s.size)] W fun e w' => e = .returned (pieceV p1 p2 p3) ∧ ∃ v', AsmTo W w' a v v' ∧ AsmV w' a op2 v' xs2) :
    Calls Tryz.prog 70 #[.pointer (some ⟨a, 0, none⟩), .string s] w fun e w' => e = .returned (.tuple #[pieceV p1 p2 p3, .int .i64 0]) ∧ ∃ v', AsmTo w w' a v v' ∧ AsmV w' a op2 v' xs2 := by
  have HC := Lib.hid hc; clear hc
  have hal : a < w.heap.size := hA.1.lt
  have hne1 : a ≠ w.heap.size := by omega
  have hne2 : w.heap.size ≠ a := by omega
  have HNW := Lib.hid (hA.new_out (Nat.le_refl w.heap.size))
  have HA0 := Lib.hid (hA.below ((Below.refl w.heap.size w).alloc (Nat.le_refl _) (Obj.cells #[.bool false, .string ⟨#[]⟩, .int .i64 0, .bool false] 156)))
  have HZ0 := Lib.hid (Blk.new w (pieceC false ⟨#[]⟩ false) 156)
  obtain ⟨hB, _⟩ := hA
  have HB := Lib.hid (hB.alloc (Obj.cells #[.bool false, .string ⟨#[]⟩, .int .i64 0, .bool false] 156))
  clear hB
  have b0 := HB.out.cell 0
  have b1 := HB.out.cell 1
  have b2 := HB.out.cell 2
  simp only [List.getElem?_cons_zero, List.getElem?_cons_succ] at b0 b1 b2
  have k1 : ¬ ((s.size : Int) < 2) := by omega
  have k2 : ¬ ((200 : Int) < s.size) := by omega
  have k3 : (0 : Int) < s.size := by omega
  have HL0 := Lib.hid ((Keep.refl (a :: v.ownBlock.toList) w).alloc (Obj.cells #[.bool false, .string ⟨#[]⟩, .int .i64 0, .bool false] 156))
  go_enter Tryz.func70, Tryz.ntmps70
  go_wp2_with fail
  go_region_with (first | (go_at_call 99; refine (steps_any _).mono ?_; rintro e w' ⟨rfl, rfl⟩) | (go_at_call 111; refine (HC.out _ (HA0.out.below (((Below.refl _ _).alloc (Nat.le_refl _) _).drew))).mono ?_; rintro e w5 ⟨rfl, v5, hT5, hA5⟩; have hZ5 := Blk.keep (HZ0.out.alloc (Obj.cells #[.func (.func 110) #[] #[], .func (.func 111) #[] #[], .func (.func 112) #[] #[], .func (.func 113) #[] #[]] 177)).drew hT5.keep HNW.out; have z0 := hZ5.cell 0; have z1 := hZ5.cell 1; have z2 := hZ5.cell 2; have z3 := hZ5.cell 3; have y0 := hZ5.free 0; have y1 := hZ5.free 1; have y2 := hZ5.free 2; have y3 := hZ5.free 3; simp only [pieceC, List.getElem?_cons_zero, List.getElem?_cons_succ] at z0 z1 z2 z3; have HZ5 := Lib.hid hZ5; have HA5 := Lib.hid hA5; have HT5 := Lib.hid hT5; clear hZ5 hA5 hT5; simp only [pieceV]))
  all_goals
    go_wp2_with fail
    refine ret_cell_tmp rfl w.heap.size 156 (pieceC p1 p2 p3) rfl ((((HZ5.out.set 0 _).set 1 _).set 2 _).set 3 _) Tryz.underlying156 rfl (by kernel_rfl) rfl ?_
    have hK5 := ((HL0.out.alloc (Obj.cells #[.func (.func 110) #[] #[], .func (.func 111) #[] #[], .func (.func 112) #[] #[], .func (.func 113) #[] #[]] 177)).drew.trans HT5.out.keep)
    obtain ⟨hBa, hRa⟩ := HA5.out
    have hr2 := row_ne2 hRa HZ5.out (by decide)
    refine ⟨rfl, v5, ⟨((((hK5.setCell (.inr (Nat.le_refl _)) _).setCell (.inr (Nat.le_refl _)) _).setCell (.inr (Nat.le_refl _)) _).setCell (.inr (Nat.le_refl _)) _), fun k hk => (HT5.out.mv k hk).imp id (fun h => by simp at h; omega)⟩, ((((hBa.set_far hne1 _).set_far hne1 _).set_far hne1 _).set_far hne1 _), row_keep hRa (((((Keep.refl [w.heap.size] _).setCell (.inl (by simp)) _).setCell (.inl (by simp)) _).setCell (.inl (by simp)) _).setCell (.inl (by simp)) _) (fun g hg => by have := hr2 g hg; simp; omega)⟩
end
section
open Go.RowKit
attribute [local go_sem] run_tab0 run_tab1 run_tab2 run_tab3
set_option maxHeartbeats 4000000 in
set_option maxRecDepth 100000 in
theorem Feed_kl (s : ByteArray) (a : Nat) (op op2 p1 p3 : Bool) (v : Value) (xs xs2 : List UInt8) (p2 : ByteArray) (w : World) (h1 : 2 ≤ s.size) (h2 : s.size ≤ 200) (hz : (s[0]'(by omega)).toNat = 128) (hA : AsmV w a op v xs)
    (hc : ∀ W, AsmV W a op v xs → Calls Tryz.prog 112 #[.pointer (some ⟨a, 0, none⟩), .string (s.extract 1 s.size)] W fun e w' => e = .returned (pieceV p1 p2 p3) ∧ ∃ v', AsmTo W w' a v v' ∧ AsmV w' a op2 v' xs2) :
    Calls Tryz.prog 70 #[.pointer (some ⟨a, 0, none⟩), .string s] w fun e w' => e = .returned (.tuple #[pieceV p1 p2 p3, .int .i64 0]) ∧ ∃ v', AsmTo w w' a v v' ∧ AsmV w' a op2 v' xs2 := by
  have HC := Lib.hid hc; clear hc
  have hal : a < w.heap.size := hA.1.lt
  have hne1 : a ≠ w.heap.size := by omega
  have hne2 : w.heap.size ≠ a := by omega
  have HNW := Lib.hid (hA.new_out (Nat.le_refl w.heap.size))
  have HA0 := Lib.hid (hA.below ((Below.refl w.heap.size w).alloc (Nat.le_refl _) (Obj.cells #[.bool false, .string ⟨#[]⟩, .int .i64 0, .bool false] 156)))
  have HZ0 := Lib.hid (Blk.new w (pieceC false ⟨#[]⟩ false) 156)
  obtain ⟨hB, _⟩ := hA
  have HB := Lib.hid (hB.alloc (Obj.cells #[.bool false, .string ⟨#[]⟩, .int .i64 0, .bool false] 156))
  clear hB
  have b0 := HB.out.cell 0
  have b1 := HB.out.cell 1
  have b2 := HB.out.cell 2
  simp only [List.getElem?_cons_zero, List.getElem?_cons_succ] at b0 b1 b2
  have k1 : ¬ ((s.size : Int) < 2) := by omega
  have k2 : ¬ ((200 : Int) < s.size) := by omega
  have k3 : (0 : Int) < s.size := by omega
  have HL0 := Lib.hid ((Keep.refl (a :: v.ownBlock.toList) w).alloc (Obj.cells #[.bool false, .string ⟨#[]⟩, .int .i64 0, .bool false] 156))
  go_enter Tryz.func70, Tryz.ntmps70
  go_wp2_with fail
  go_region_with (first | (go_at_call 99; refine (steps_any _).mono ?_; rintro e w' ⟨rfl, rfl⟩) | (go_at_call 112; refine (HC.out _ (HA0.out.below (((Below.refl _ _).alloc (Nat.le_refl _) _).drew))).mono ?_; rintro e w5 ⟨rfl, v5, hT5, hA5⟩; have hZ5 := Blk.keep (HZ0.out.alloc (Obj.cells #[.func (.func 110) #[] #[], .func (.func 111) #[] #[], .func (.func 112) #[] #[], .func (.func 113) #[] #[]] 177)).drew hT5.keep HNW.out; have z0 := hZ5.cell 0; have z1 := hZ5.cell 1; have z2 := hZ5.cell 2; have z3 := hZ5.cell 3; have y0 := hZ5.free 0; have y1 := hZ5.free 1; have y2 := hZ5.free 2; have y3 := hZ5.free 3; simp only [pieceC, List.getElem?_cons_zero, List.getElem?_cons_succ] at z0 z1 z2 z3; have HZ5 := Lib.hid hZ5; have HA5 := Lib.hid hA5; have HT5 := Lib.hid hT5; clear hZ5 hA5 hT5; simp only [pieceV]))
  all_goals
    go_wp2_with fail
    refine ret_cell_tmp rfl w.heap.size 156 (pieceC p1 p2 p3) rfl ((((HZ5.out.set 0 _).set 1 _).set 2 _).set 3 _) Tryz.underlying156 rfl (by kernel_rfl) rfl ?_
    have hK5 := ((HL0.out.alloc (Obj.cells #[.func (.func 110) #[] #[], .func (.func 111) #[] #[], .func (.func 112) #[] #[], .func (.func 113) #[] #[]] 177)).drew.trans HT5.out.keep)
    obtain ⟨hBa, hRa⟩ := HA5.out
    have hr2 := row_ne2 hRa HZ5.out (by decide)
    refine ⟨rfl, v5, ⟨((((hK5.setCell (.inr (Nat.le_refl _)) _).setCell (.inr (Nat.le_refl _)) _).setCell (.inr (Nat.le_refl _)) _).setCell (.inr (Nat.le_refl _)) _), fun k hk => (HT5.out.mv k hk).imp id (fun h => by simp at h; omega)⟩, ((((hBa.set_far hne1 _).set_far hne1 _).set_far hne1 _).set_far hne1 _), row_keep hRa (((((Keep.refl [w.heap.size] _).setCell (.inl (by simp)) _).setCell (.inl (by simp)) _).setCell (.inl (by simp)) _).setCell (.inl (by simp)) _) (fun g hg => by have := hr2 g hg; simp; omega)⟩
end
end Go.Proofs.YtgopighmifpefaaGreatDoor
