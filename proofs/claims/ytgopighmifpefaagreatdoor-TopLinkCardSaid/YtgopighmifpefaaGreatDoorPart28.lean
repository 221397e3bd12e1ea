/- What is proved here: a part of the proof of TopLink (texts Lv Je Jp). No condition. -/
import Derived.BigRegion
import Derived.Deep.CutBlock
import Derived.Test.YtgopighmifpefaaGreatDoorPart02
import Derived.Test.YtgopighmifpefaaGreatDoorPart27
set_option linter.unusedVariables false
set_option linter.unusedSimpArgs false
namespace Go.Proofs.YtgopighmifpefaaGreatDoor
section
open Go.RowKit
theorem arrive_none {w W : World} {c : Lc} {l : Ls} (fv : Value) (hun : l.units = []) (h : LkM w W c (lkCells c l) l) :
    Calls Tryz.prog 13 #[.pointer (some ⟨c.L, 0, none⟩), fv] W fun e w' => e = .returned (.tuple #[]) ∧ w' = W := by
  obtain ⟨va, vc, hve⟩ := qform h.units
  rw [hun] at hve
  have c7 := h.blk.cell 7
  simp only [lkCells, List.cons_append, List.nil_append, List.getElem?_cons_zero, List.getElem?_cons_succ, hve, List.length_nil] at c7
  clear h hve
  go_enter Tryz.func13, Tryz.ntmps13
  go_wp2_with fail
  exact bodyPost_ret (v := .tuple #[]) (by simp [results, Tryz.results13, go_sem]) rfl ⟨rfl, rfl⟩
theorem arrS_cons_none (x : Tc) (l : Ls) (D : ByteArray) (ds : List ByteArray) (h : frontT D = none) : arrS x l (D :: ds) = arrS x l ds ∧ (ArrOk x l (D :: ds) ↔ ArrOk x l ds) := by
  constructor
  · show (match frontT D with | none => arrS x l ds | some y => _) = _
    rw [h]
  · show (match frontT D with | none => ArrOk x l ds | some y => _) ↔ _
    rw [h]
theorem arrS_cons_take (x : Tc) (l : Ls) (D : ByteArray) (ds : List ByteArray) (y : Tc) (h : frontT D = some y) (hc : y = x ∨ y = l.before) : arrS x l (D :: ds) = arrS x (takeS l y) ds ∧ (ArrOk x l (D :: ds) ↔ TakePre l y ∧ ArrOk x (takeS l y) ds) := by
  constructor
  · show (match frontT D with | none => arrS x l ds | some y => if y = x ∨ y = l.before then arrS x (takeS l y) ds else { l with odd := true }) = _
    rw [h]; simp only [if_pos hc]
  · show (match frontT D with | none => ArrOk x l ds | some y => if y = x ∨ y = l.before then TakePre l y ∧ ArrOk x (takeS l y) ds else True) ↔ _
    rw [h]; simp only [if_pos hc]
theorem arrS_cons_odd (x : Tc) (l : Ls) (D : ByteArray) (ds : List ByteArray) (y : Tc) (h : frontT D = some y) (hc : ¬ (y = x ∨ y = l.before)) : arrS x l (D :: ds) = { l with odd := true } := by
  show (match frontT D with | none => arrS x l ds | some y => if y = x ∨ y = l.before then arrS x (takeS l y) ds else { l with odd := true }) = _
  rw [h]; simp only [if_neg hc]
theorem takeS_came (l : Ls) (y : Tc) : (takeS l y).came ≤ l.came + 1 := by
  unfold takeS
  split
  · show (if _ then l.came + 1 else l.came : Nat) ≤ l.came + 1
    split <;> first | exact Nat.le_refl _ | exact Nat.le_succ _
  · exact Nat.le_succ _
theorem drewN_below {B : Nat} {a w : World} (h : Below B a w) (n : Nat) : Below B a (w.drewN n) := ⟨h.os, h.tape, h.output, h.size, h.block⟩
/-- What holds while the things found are looked at. -/
structure ArrRel (w wr : World) (L r : Nat) (v : Value) (x : Tc) (outs : List ByteArray) (l1 : Ls) (A j : Nat) (c2 : Lc) (l2 : Ls) : Prop where
  hL : c2.L = L
  lk : LkM w wr c2 (lkCells c2 l2) l2
  row : QRow wr 0 9 1 v outs.length (stRow outs)
  out : ∀ y, v.ownBlock = some y → OutC c2 wr y
  outr : OutC c2 wr r
  blk : Blk wr r x.cells 37
  eq : arrS x l1 outs = arrS x l2 (outs.drop j)
  ok : ArrOk x l2 (outs.drop j)
  bad : l2.bad = false
  sent : l2.sent.length ≤ 1000000
  came : l2.came ≤ A + j
section
variable {w wr wr' : World} {L r : Nat} {v : Value} {x : Tc} {outs : List ByteArray} {l1 l2 : Ls} {A j : Nat} {c2 c3 : Lc}
theorem OutC.below {c : Lc} {W W' : World} {i : Nat} (h : OutC c W i) (k : Below W.heap.size W W') : OutC c W' i := ⟨Nat.lt_of_lt_of_le h.1 k.size, h.2⟩
theorem ArrRel.below (h : ArrRel w wr L r v x outs l1 A j c2 l2) (k : Below wr.heap.size wr wr') : ArrRel w wr' L r v x outs l1 A j c2 l2 :=
  { h with lk := h.lk.below k, row := q_below h.row k (Nat.le_refl _), out := fun y hy => (h.out y hy).below k, outr := h.outr.below k, blk := h.blk.below k h.blk.lt, .. }
theorem ArrRel.skip (h : ArrRel w wr L r v x outs l1 A j c2 l2) (hj : j < outs.length) (hn : frontT outs[j] = none) : ArrRel w wr L r v x outs l1 A (j + 1) c2 l2 := by
  have e := List.drop_eq_getElem_cons hj
  have h1 := h.eq; have h2 := h.ok; have h3 := h.came
  rw [e] at h1 h2
  obtain ⟨a1, a2⟩ := arrS_cons_none x l2 outs[j] (outs.drop (j + 1)) hn
  exact { h with eq := h1.trans a1, ok := a2.1 h2, came := by omega, .. }
theorem ArrRel.pre (h : ArrRel w wr L r v x outs l1 A j c2 l2) (hj : j < outs.length) (y : Tc) (hn : frontT outs[j] = some y) (hc : y = x ∨ y = l2.before) : TakePre l2 y := by
  have h2 := h.ok
  rw [List.drop_eq_getElem_cons hj] at h2
  exact ((arrS_cons_take x l2 outs[j] (outs.drop (j + 1)) y hn hc).2.1 h2).1
theorem ArrRel.took (h : ArrRel w wr L r v x outs l1 A j c2 l2) (hj : j < outs.length) (y : Tc) (hn : frontT outs[j] = some y) (hc : y = x ∨ y = l2.before) (kT : LkTo wr wr' c2 c3) (hP : LkM w wr' c3 (lkCells c3 (takeS l2 y)) (takeS l2 y)) : ArrRel w wr' L r v x outs l1 A (j + 1) c3 (takeS l2 y) := by
  have e := List.drop_eq_getElem_cons hj
  have h1 := h.eq; have h2 := h.ok; have h3 := h.came
  rw [e] at h1 h2
  obtain ⟨a1, a2⟩ := arrS_cons_take x l2 outs[j] (outs.drop (j + 1)) y hn hc
  obtain ⟨s1, s2, s3, s4, s5, s6, s7, s8, s9⟩ := takeS_same l2 y
  have h4 := takeS_came l2 y
  have hO := kT.out h.outr
  exact ⟨kT.same.trans h.hL, hP, q_same h.row (fun k hk => (kT.out (h.out k hk)).2), fun k hk => (kT.out (h.out k hk)).1, hO.1, h.blk.same hO.2, h1.trans a1, (a2.1 h2).2, by rw [s8]; exact h.bad, by rw [s5]; exact h.sent, by omega⟩
theorem ArrRel.odd (h : ArrRel w wr L r v x outs l1 A j c2 l2) (hj : j < outs.length) (y : Tc) (hn : frontT outs[j] = some y) (hc : ¬ (y = x ∨ y = l2.before)) : arrS x l1 outs = { l2 with odd := true } := by
  have h1 := h.eq
  rw [List.drop_eq_getElem_cons hj] at h1
  exact h1.trans (arrS_cons_odd x l2 outs[j] _ y hn hc)
theorem ArrRel.done (h : ArrRel w wr L r v x outs l1 A outs.length c2 l2) : arrS x l1 outs = { l2 with before := x } := by
  have h1 := h.eq
  rw [List.drop_length] at h1
  exact h1
end
set_option maxHeartbeats 8000000 in
set_option maxRecDepth 100000 in
theorem arrive_walk {w W : World} {c : Lc} {l : Ls} {x : Tc} {fr : List Tc} {u : ByteArray} {un : List ByteArray} (fa : Option Addr) (n cap : Nat) (S : Nat → Int) (hfr : l.frames = x :: fr) (hun : l.units = u :: un) (hn : n ≤ 4)
    (hlf : fr.length ≤ 1000000) (hlu : un.length ≤ 1000000) (hG : Gl w) (hbad : l.bad = false) (hls : l.sent.length ≤ 1000000) (hlc : l.came ≤ 1000) (hus : u.size ≤ 1000) (hpf : l.ps.fine) (hpd : l.ps.found = []) (hr0 : RowAt w fa n (fun i => .int .i64 (S i))) (hS : ∀ i, i < n → I64 (S i))
    (hok : ArrOk x (popS l (feedP l.ps (flipsL ((List.range n).map S) u.data.toList))) (feedP l.ps (flipsL ((List.range n).map S) u.data.toList)).found) (h : LkM w W c (lkCells c l) l) :
    Calls Tryz.prog 13 #[.pointer (some ⟨c.L, 0, none⟩), .slice fa n cap] W fun e W' => e = .returned (.tuple #[]) ∧ LkIn w W' c.L (arrS x (popS l (feedP l.ps (flipsL ((List.range n).map S) u.data.toList))) (feedP l.ps (flipsL ((List.range n).map S) u.data.toList)).found) := by
  have hpop : popS l (feedP l.ps (flipsL ((List.range n).map S) u.data.toList)) = { l with frames := fr, units := un, ps := { feedP l.ps (flipsL ((List.range n).map S) u.data.toList) with found := [] } } := by unfold popS; rw [hfr, hun]; rfl
  rw [hpop] at hok ⊢
  have hfz : (feedP l.ps (flipsL ((List.range n).map S) u.data.toList)).found.length ≤ 1000 := by
    have := (feedP_fine l.ps hpf (flipsL ((List.range n).map S) u.data.toList)).2
    rw [hpd, (flipsL_hd _ _).1] at this
    simp at this; omega
  obtain ⟨Fl, hFl⟩ : ∃ Fl : Nat → List UInt8, Fl = fun j => flipsL ((List.range j).map S) u.data.toList := ⟨_, rfl⟩
  have hF0 : Fl 0 = u.data.toList := by rw [hFl]; rfl
  have hF1 : ∀ j, Fl (j + 1) = flipOf (Fl j) (S j) := fun j => by rw [hFl]; simp only [List.range_succ, List.map_append, List.map_cons, List.map_nil]; rw [flipsL_snoc]
  have hF2 : ∀ j, (Fl j).length ≤ 1000 := fun j => by
    rw [hFl]
    simp only [(flipsL_hd _ _).1]
    simpa using hus
  have hFn : flipsL ((List.range n).map S) u.data.toList = Fl n := by rw [hFl]
  rw [hFn] at hok hfz ⊢
  have HF0 := Lib.hid hF0; have HF1 := Lib.hid hF1; have HF2 := Lib.hid hF2; have HG := Lib.hid hG; have HPF := Lib.hid hpf; have HPD := Lib.hid hpd; have HR0 := Lib.hid hr0; have HSS := Lib.hid hS; have HOK := Lib.hid hok
  have HBD := Lib.hid hbad; have HLS := Lib.hid hls; have HLC := Lib.hid hlc; have HFZ := Lib.hid hfz
  clear hpop hFl hF0 hF1 hF2 hFn hG hpf hpd hr0 hS hok hbad hls hlc hfz hus
  have hQU := h.units
  rw [hun] at hQU
  have hQU' : QRow W 0 9 1 c.uv (un.length + 1) (stRow (u :: un)) := hQU
  have hQF := h.frames
  rw [hfr] at hQF
  have hQF' : QRow W 0 37 6 c.fv (fr.length + 1) (tcRow (x :: fr)) := hQF
  clear hQU hQF
  obtain ⟨qu, ou, cu, heu, -, hquw, hcu, hclu, hfru⟩ := q_cells hQU' (by omega)
  obtain ⟨qf, of, cf, hef, -, hqfw, hcf, hclf, hfrf⟩ := q_cells hQF' (by omega)
  obtain ⟨xc, xch, xb, xk, xs, xd⟩ := x
  have du : W.cell? ⟨qu, ou, none⟩ = some (.string u) := hclu 0 _ rfl
  have d0 : W.cell? ⟨qf, of, none⟩ = some (.int .i64 xc) := hclf 0 _ rfl
  have d1 : W.cell? ⟨qf, of + 1, none⟩ = some (.int .i64 xch) := hclf 1 _ rfl
  have d2 : W.cell? ⟨qf, of + 2, none⟩ = some (.bool xb) := hclf 2 _ rfl
  have d3 : W.cell? ⟨qf, of + 3, none⟩ = some (.bool xk) := hclf 3 _ rfl
  have d4 : W.cell? ⟨qf, of + 4, none⟩ = some (.int .i64 xs) := hclf 4 _ rfl
  have d5 : W.cell? ⟨qf, of + 5, none⟩ = some (.string xd) := hclf 5 _ rfl
  have c7 := h.blk.cell 7; have c6 := h.blk.cell 6
  simp only [lkCells, List.cons_append, List.nil_append, List.getElem?_cons_zero, List.getElem?_cons_succ, heu, hef] at c6 c7
  have k2 : (((un.length + 1 : Nat) : Int) == 0) = false := by simp; omega
  have k3 : (0 : Int) < ((un.length + 1 : Nat) : Int) := by omega
  have k4 : (0 : Int) < ((fr.length + 1 : Nat) : Int) := by omega
  have n1 : c.L ≠ W.heap.size := Nat.ne_of_lt h.blk.lt
  have n2 : qu ≠ W.heap.size := Nat.ne_of_lt hquw
  have n3 : qf ≠ W.heap.size := Nat.ne_of_lt hqfw
  have n4 := n1.symm; have n5 := n2.symm; have n6 := n3.symm
  have hLz : Below W.heap.size W (W.alloc (Obj.cells #[.int .i64 0, .int .i64 0, .bool false, .bool false, .int .i64 0, .string ⟨#[]⟩] 37)) := (Below.refl _ _).alloc (Nat.le_refl _) _
  have e7 := (hLz.cell (p := ⟨c.L, 7, none⟩) h.blk.lt).trans c7
  have e6 := (hLz.cell (p := ⟨c.L, 6, none⟩) h.blk.lt).trans c6
  have eu := (hLz.cell (p := ⟨qu, ou, none⟩) hquw).trans du
  have g0 := (hLz.cell (p := ⟨qf, of, none⟩) hqfw).trans d0
  have g1 := (hLz.cell (p := ⟨qf, of + 1, none⟩) hqfw).trans d1
  have g2 := (hLz.cell (p := ⟨qf, of + 2, none⟩) hqfw).trans d2
  have g3 := (hLz.cell (p := ⟨qf, of + 3, none⟩) hqfw).trans d3
  have g4 := (hLz.cell (p := ⟨qf, of + 4, none⟩) hqfw).trans d4
  have g5 := (hLz.cell (p := ⟨qf, of + 5, none⟩) hqfw).trans d5
  have H := Lib.hid h
  clear hLz
  clear h hclu hfru hclf hfrf
  go_enter Tryz.func13, Tryz.ntmps13
  go_upto_region 1 with fail
  go_cut [4, 5] (fun p4 p5 W2 => p4 = .string u ∧ p5 = .pointer (some ⟨W.heap.size, 0, none⟩) ∧ W2 = (W.alloc (.cells #[.int .i64 xc, .int .i64 xch, .bool xb, .bool xk, .int .i64 xs, .string xd] 37)).drew)
  case first =>
    go_region
    all_goals (go_wp2_with fail; go_meet; exact ⟨rfl, rfl, rfl⟩)
  case rest =>
    obtain ⟨rfl, rfl, rfl⟩ := hcut
    clear d0 d1 d2 d3 d4 d5 du g0 g1 g2 g3 g4 g5 eu e6 e7 c6 c7 k2 k3 k4 n1 n2 n3 n4 n5 n6
    obtain ⟨vu, hslu, hqu, hou⟩ := st_tail hQU'
    obtain ⟨vf, hslf, hqf, hof⟩ := tc_tail hQF'
    obtain ⟨vua, vuc, hvu⟩ := qform hqu
    obtain ⟨vfa, vfc, hvf⟩ := qform hqf
    subst hvu hvf
    rw [heu] at hslu
    rw [hef] at hslf
    have hs1 : ∀ W, Sem.run Tryz.prog (Instr.sliceAt 33 (.slice (some ⟨qu, ou, none⟩) (un.length + 1) cu) (some (.int .i64 1)) none none) W = .ok (.slice vua un.length vuc) W := hslu
    have hs2 : ∀ W, Sem.run Tryz.prog (Instr.sliceAt 34 (.slice (some ⟨qf, of, none⟩) (fr.length + 1) cf) (some (.int .i64 1)) none none) W = .ok (.slice vfa fr.length vfc) W := hslf
    clear hslu hslf
    have hL0 : Below W.heap.size W (W.alloc (Obj.cells #[.int .i64 xc, .int .i64 xch, .bool xb, .bool xk, .int .i64 xs, .string xd] 37)).drew := ((Below.refl _ _).alloc (Nat.le_refl _) _).drew
    have hO0 : OutC c (W.alloc (Obj.cells #[.int .i64 xc, .int .i64 xch, .bool xb, .bool xk, .int .i64 xs, .string xd] 37)).drew W.heap.size := ⟨by simp [World.drew], fun hm => by have := (H.out.lt _ hm).2; omega⟩
    have HX0 := (Blk.new W [.int .i64 xc, .int .i64 xch, .bool xb, .bool xk, .int .i64 xs, .string xd] 37).drew
    obtain ⟨r, hr⟩ : ∃ r, r = W.heap.size := ⟨_, rfl⟩
    go_upto_region 2 with fail
    rw [← hr] at hO0 HX0 ⊢
    have hP0 := H.out.below hL0
    have hqu0 := q_below hqu hL0 (Nat.le_refl _)
    have hqf0 := q_below hqf hL0 (Nat.le_refl _)
    refine gen_world (fun W1 => LkM w W1 c (lkCells c l) l ∧ OutC c W1 r ∧ Blk W1 r [.int .i64 xc, .int .i64 xch, .bool xb, .bool xk, .int .i64 xs, .string xd] 37 ∧ QRow W1 0 9 1 (.slice vua un.length vuc) un.length (stRow un) ∧ QRow W1 0 37 6 (.slice vfa fr.length vfc) fr.length (tcRow fr)) ⟨hP0, hO0, HX0, hqu0, hqf0⟩ ?_
    clear hP0 hO0 HX0 hqu0 hqf0 hL0 H hqu hqf hQU' hQF' hquw hqfw hr
    rintro W1 ⟨hP, hO, hX, hqu, hqf⟩
    have HP := Lib.hid hP; have HO := Lib.hid hO; have HX := Lib.hid hX; have HQU := Lib.hid hqu; have HQF := Lib.hid hqf
    clear hP hO hX hqu hqf
    have c7 := HP.out.blk.cell 7; have c6 := HP.out.blk.cell 6
    have f7 := HP.out.blk.free 7; have f6 := HP.out.blk.free 6
    simp only [lkCells, List.cons_append, List.nil_append, List.getElem?_cons_zero, List.getElem?_cons_succ, heu, hef] at c6 c7
    go_cut [] (fun W2 => W2 = ((W1.drew).setCell ⟨c.L, 7, none⟩ (.slice vua un.length vuc)).setCell ⟨c.L, 6, none⟩ (.slice vfa fr.length vfc))
    case first =>
      go_region
      all_goals (go_wp2_with fail; go_meet; exact rfl)
    case rest =>
      have hcw := hcut
      clear c6 c7 f6 f7 hs1 hs2 hcut
      have hLK : ∃ c', c'.L = c.L ∧ c'.P = c.P ∧ LkM w wc c' (lkCells c' { l with units := un, frames := fr }) { l with units := un, frames := fr } ∧ OutC c' wc r ∧ Blk wc r [.int .i64 xc, .int .i64 xch, .bool xb, .bool xk, .int .i64 xs, .string xd] 37 := by
        subst hcw
        have k : Keep [c.L] W1 ((W1.drew.setCell ⟨c.L, 7, none⟩ (.slice vua un.length vuc)).setCell ⟨c.L, 6, none⟩ (.slice vfa fr.length vfc)) := (((Keep.refl _ _).drew).setCell (.inl (by simp)) _).setCell (.inl (by simp)) _
        have kT := LkTo.of (c := c) k (fun x hx => .inl (by simp at hx; subst hx; exact c.inL))
        have hO2 := kT.out HO.out
        have hLu : ∀ x, c.uv.ownBlock = some x → x ∉ [c.L] := fun x hx hm => by
          simp at hm; subst hm
          exact dj_get HP.out.apart 0 6 _ _ rfl rfl (by decide) c.L (by simp [hx]) (by simp)
        have hLf : ∀ x, c.fv.ownBlock = some x → x ∉ [c.L] := fun x hx hm => by
          simp at hm; subst hm
          exact dj_get HP.out.apart 0 5 _ _ rfl rfl (by decide) c.L (by simp [hx]) (by simp)
        have hP2 := (HP.out.drew.poke 7 (.slice vua un.length vuc)).poke 6 (.slice vfa fr.length vfc)
        have hP3 := hP2.rowU (v' := .slice vua un.length vuc) (q := un) (Keep.refl _ _) (fun j hj => .inl (by rw [← hou]; exact hj)) (q_keep HQU.out k (by rw [hou]; exact hLu))
        have hP4 := hP3.rowF (v' := .slice vfa fr.length vfc) (q := fr) (Keep.refl _ _) (fun j hj => .inl (by rw [← hof]; exact hj)) (q_keep HQF.out k (by rw [hof]; exact hLf))
        have egs : ({ c with uv := .slice vua un.length vuc, fv := .slice vfa fr.length vfc } : Lc).gs = c.gs := by unfold Lc.gs; simp only [hou, hof]
        refine ⟨{ c with uv := .slice vua un.length vuc, fv := .slice vfa fr.length vfc }, rfl, rfl, hP4, ⟨hO2.1.1, ?_⟩, HX.out.same hO2.2⟩
        rw [egs]
        exact hO2.1.2
      obtain ⟨c', hcL, hcP, hP, hO, hX⟩ := hLK
      obtain ⟨L, hL⟩ : ∃ L, L = c.L := ⟨_, rfl⟩
      rw [← hL] at hcL ⊢
      have HCL := Lib.hid hcL; have HCL0 := Lib.hid hL
      clear hL hcL hcP HP HO HX HQU HQF hou hof
      clear hcw
      have HP := Lib.hid hP; have HO := Lib.hid hO; have HX := Lib.hid hX
      clear hP hO hX
      go_upto_block 0 with fail
      go_cut [4] (fun p4 W2 => p4 = .string ⟨(Fl n).toArray⟩ ∧ Below wc.heap.size wc W2)
      case first =>
        have HB := Lib.hid HP.out.fop.toBelow
        clear HP HO HX
        go_wp2_with fail
        go_loopw [4, 6] (fun uv iv wr => ∃ j : Nat, j ≤ n ∧ iv = .int .i64 j ∧ uv = strOf (Fl j) ∧ Below wc.heap.size wc wr) (fun _ iv _ => n - (intOf iv).toNat)
        case atStart => exact ⟨0, Nat.zero_le _, rfl, by rw [HF0.out]; rfl, Below.refl _ _⟩
        case round =>
          obtain ⟨j, hj, rfl, rfl, hL⟩ := hrel
          have HL := Lib.hid hL
          clear hL
          by_cases hlt : j < n
          · obtain ⟨q, off, hfa, hq, hc⟩ := (HR0.out.below HB.out (Nat.le_refl _)).below HL.out (Nat.le_refl _) j hlt
            subst hfa
            have hS := HSS.out j hlt
            have hlt2 : (j : Int) < (n : Int) := by omega
            unfold strOf
            have hfl := flip_any ⟨(Fl j).toArray⟩ (S j) wr (by have := HF2.out j; show (Fl j).toArray.size ≤ _; simp; omega) hS.1 hS.2
            rw [show flipOf (⟨(Fl j).toArray⟩ : ByteArray).data.toList (S j) = Fl (j + 1) by rw [HF1.out]] at hfl
            have HFL := Lib.hid hfl
            clear hfl hS
            go_wp2_with fail
            refine HFL.out.mono ?_
            rintro e w2 ⟨rfl, hL⟩
            have HL2 := Lib.hid (HL.out.trans (hL.mono HL.out.size))
            clear hL HL hc HFL
            go_wp2_with fail
            go_roundw
            case rel => exact ⟨j + 1, by omega, by go_num, rfl, HL2.out⟩
            case measure => simp [intOf]; omega
          · obtain rfl : j = n := by omega
            go_wp2_with fail
            go_meet
            exact ⟨rfl, HL.out⟩
      case rest =>
        obtain ⟨rfl, hL⟩ := hcut
        have hP2 := HP.out.below hL; have hX2 := HX.out.below hL HX.out.lt; have hO2 := HO.out.below hL
        clear HP HX HO hL HF0 HF1 HR0 HSS
        have hFD := clFeed_any c'.P c'.dv c'.kv l.ps ⟨(Fl n).toArray⟩ wc (by have := HF2.out n; show (Fl n).toArray.size ≤ _; simp; omega) HPF.out HPD.out (hP2.gl HG.out) (hP2.own HG.out) hP2.par
        rw [show (⟨(Fl n).toArray⟩ : ByteArray).data.toList = Fl n from rfl] at hFD
        obtain ⟨ps', hps'⟩ : ∃ ps', ps' = feedP l.ps (Fl n) := ⟨_, rfl⟩
        rw [← hps'] at hFD HOK HFZ
        have c2 := hP2.blk.cell 2
        simp only [lkCells, List.cons_append, List.nil_append, List.getElem?_cons_zero, List.getElem?_cons_succ, pt] at c2
        rw [HCL.out] at c2
        have HFD := Lib.hid hFD; have HP := Lib.hid hP2; have HX := Lib.hid hX2; have HO := Lib.hid hO2; have HPS := Lib.hid hps'
        clear hFD hP2 hX2 hO2 hps' HF2 HPF HPD HG
        go_wp2_with fail
        refine HFD.out.mono ?_
        rintro e w3 ⟨dv', kv', v, rfl, hTo, hQ, hf1, hf2, hf3, hM⟩
        obtain ⟨hP3, hT3, hV3⟩ := HP.out.parser hTo hM ⟨hf1, hf2, hf3⟩ (fun y hy => (q_lt hQ y hy).2)
        have hO3 := hT3.out HO.out
        have hX3 := HX.out.same hO3.2
        obtain ⟨l1, hl1⟩ : ∃ l1 : Ls, l1 = { l with frames := fr, units := un, ps := { ps' with found := [] } } := ⟨_, rfl⟩
        have hR : ArrRel w w3 L r v ⟨xc, xch, xb, xk, xs, xd⟩ ps'.found l1 l.came 0 { c' with dv := dv', kv := kv' } l1 := by
          subst hl1
          exact ⟨HCL.out, hP3, hQ, hV3, hO3.1, hX3, rfl, HOK.out, HBD.out, HLS.out, Nat.le_refl _⟩
        obtain ⟨va, vc, hve⟩ := qform hQ
        subst hve
        have HR := Lib.hid hR; have HL1 := Lib.hid hl1
        clear hTo hQ hf1 hf2 hf3 hM hP3 hT3 hV3 hO3 hX3 hl1 hR c2 HFD HP HX HO HOK HBD HLS
        go_wp2_with fail
        go_loopw [8] (fun iv wr => ∃ j : Nat, j ≤ ps'.found.length ∧ iv = .int .i64 j ∧ ∃ c2 l2, ArrRel w wr L r (.slice va ps'.found.length vc) ⟨xc, xch, xb, xk, xs, xd⟩ ps'.found l1 l.came j c2 l2) (fun iv _ => ps'.found.length - (intOf iv).toNat)
        case atStart => exact ⟨0, Nat.zero_le _, rfl, _, _, HR.out⟩
        case round =>
          obtain ⟨j, hj, rfl, c2, l2, hR⟩ := hrel
          clear HR
          have hfz : ps'.found.length ≤ 1000 := HFZ.out
          by_cases hlt : j < ps'.found.length
          · obtain ⟨q, off, cap2, hv2, -, hqw, hcap, hcl, hfrz⟩ := q_cells hR.row (by omega)
            injection hv2 with e1 e2 e3
            clear e2
            subst e1 e3
            obtain ⟨D, hD⟩ : ∃ D, D = ps'.found[j] := ⟨_, rfl⟩
            have d0 : wr.cell? ⟨q, off + j, none⟩ = some (.string D) := hcl j _ (by unfold stRow; rw [List.getElem?_map, List.getElem?_eq_getElem hlt, hD]; rfl)
            have HR := Lib.hid hR
            clear hR hcl hfrz hqw hcap
            rcases front_cases D with ⟨er, he, hn, hfv⟩ | ⟨y, nn, hn, hfv⟩
            · have HFR := Lib.hid (fun W => Front_any D W)
              rw [hfv] at HFR
              unfold front3 Tc.zero Tc.val at HFR
              rw [hD] at hn
              have HN := Lib.hid hn
              have he2 : (er == 0) = false := by simpa using he
              have HD := Lib.hid hD
              clear hn hfv hD
              go_wp2_with fail
              refine (HFR.out _).mono ?_
              rintro e w4 ⟨rfl, hL⟩
              have HR4 := Lib.hid (HR.out.below hL)
              clear hL HR d0 HFR
              go_wp2_with fail
              go_roundw
              case rel => exact ⟨j + 1, by omega, by go_num, c2, l2, (HR4.out.skip hlt HN.out).below ((Below.refl _ _).alloc (Nat.le_refl _) _)⟩
              case measure => simp [intOf]; omega
            · obtain ⟨yc, ych, yb, yk, ys, yd⟩ := y
              have HFR := Lib.hid (fun W => Front_any D W)
              rw [hfv] at HFR
              unfold front3 Tc.val at HFR
              rw [hD] at hn
              have HN := Lib.hid hn
              have HD := Lib.hid hD
              clear hn hfv hD
              go_wp2_with fail
              refine (HFR.out _).mono ?_
              rintro e w4 ⟨rfl, hL⟩
              have HR4 := Lib.hid (HR.out.below hL)
              clear hL HR d0 HFR
              go_upto_region 12 with fail
              have hR5 := HR4.out.below ((Below.refl _ _).alloc (Nat.le_refl _) (Obj.cells (List.toArray [.int .i64 yc, .int .i64 ych, .bool yb, .bool yk, .int .i64 ys, .string yd]) 37))
              have hY5 := Blk.new w4 [.int .i64 yc, .int .i64 ych, .bool yb, .bool yk, .int .i64 ys, .string yd] 37
              have hO5 : OutC c2 (w4.alloc (Obj.cells (List.toArray [.int .i64 yc, .int .i64 ych, .bool yb, .bool yk, .int .i64 ys, .string yd]) 37)) w4.heap.size := ⟨by simp, fun hm => by have := (HR4.out.lk.lt _ hm).2; omega⟩
              obtain ⟨r9, hr9⟩ : ∃ r9, r9 = w4.heap.size := ⟨_, rfl⟩
              rw [← hr9] at hY5 hO5 ⊢
              refine gen_world (fun W' => ArrRel w W' L r (.slice (some ⟨q, off, none⟩) ps'.found.length vc) ⟨xc, xch, xb, xk, xs, xd⟩ ps'.found l1 l.came j c2 l2 ∧ Blk W' r9 [.int .i64 yc, .int .i64 ych, .bool yb, .bool yk, .int .i64 ys, .string yd] 37) ⟨hR5, hY5⟩ ?_
              clear hR5 hY5 hO5 hr9 HR4
              rintro w5 ⟨hR, hY⟩
              have HR := Lib.hid hR; have HY := Lib.hid hY
              have hbl := hR.lk.blk
              rw [hR.hL] at hbl
              have b0 := hbl.cell 11; have b1 := hbl.cell 12; have b2 := hbl.cell 13; have b3 := hbl.cell 14; have b4 := hbl.cell 15; have b5 := hbl.cell 16
              have hX : Blk w5 r [.int .i64 xc, .int .i64 xch, .bool xb, .bool xk, .int .i64 xs, .string xd] 37 := hR.blk
              have x0 := hX.cell 0; have x1 := hX.cell 1; have x2 := hX.cell 2; have x3 := hX.cell 3; have x4 := hX.cell 4; have x5 := hX.cell 5
              simp only [List.getElem?_cons_zero, List.getElem?_cons_succ] at x0 x1 x2 x3 x4 x5
              simp only [lkCells, Tc.cells, List.cons_append, List.nil_append, List.getElem?_cons_zero, List.getElem?_cons_succ] at b0 b1 b2 b3 b4 b5
              clear hR hY hX hbl
              have y0 := HY.out.cell 0
              have y1 := HY.out.cell 1
              have y2 := HY.out.cell 2
              have y3 := HY.out.cell 3
              have y4 := HY.out.cell 4
              have y5 := HY.out.cell 5
              simp only [List.getElem?_cons_zero, List.getElem?_cons_succ] at y0 y1 y2 y3 y4 y5
              have hnq1 := fun W => neqTc yc ych yb yk ys yd xc xch xb xk xs xd W
              have hnq2 := fun W => neqTc yc ych yb yk ys yd l2.before.craft l2.before.chan l2.before.byp l2.before.ctl l2.before.seq l2.before.data W
              have hgd := guardTc
              by_cases hyx : (⟨yc, ych, yb, yk, ys, yd⟩ : Tc) = ⟨xc, xch, xb, xk, xs, xd⟩
              · have htn := tcNe_same hyx
                have HC : Hid ((⟨yc, ych, yb, yk, ys, yd⟩ : Tc) = ⟨xc, xch, xb, xk, xs, xd⟩ ∨ (⟨yc, ych, yb, yk, ys, yd⟩ : Tc) = l2.before) := Lib.hid (.inl hyx)
                clear hyx
                have HTK := Lib.hid (show ∀ W', LkM w W' c2 (lkCells c2 l2) l2 → Calls Tryz.prog 39 #[.pointer (some ⟨L, 0, none⟩), .agg #[.int .i64 yc, .int .i64 ych, .bool yb, .bool yk, .int .i64 ys, .string yd]] W' fun e w' => e = .returned (.tuple #[]) ∧ ∃ c3, LkTo W' w' c2 c3 ∧ LkM w w' c3 (lkCells c3 (takeS l2 ⟨yc, ych, yb, yk, ys, yd⟩)) (takeS l2 ⟨yc, ych, yb, yk, ys, yd⟩) from fun W' hP => by
                  have := take_walk ⟨yc, ych, yb, yk, ys, yd⟩ HR.out.bad HR.out.sent (by have := HR.out.came; have := HLC.out; omega) (HR.out.pre hlt ⟨yc, ych, yb, yk, ys, yd⟩ HN.out HC.out) hP
                  rw [HR.out.hL] at this
                  exact this)
                go_upto_region 13 with fail
                go_quiet (fail)
                refine post_any (fun W' => ArrRel w W' L r (.slice (some ⟨q, off, none⟩) ps'.found.length vc) ⟨xc, xch, xb, xk, xs, xd⟩ ps'.found l1 l.came j c2 l2 ∧ Blk W' r9 [.int .i64 yc, .int .i64 ych, .bool yb, .bool yk, .int .i64 ys, .string yd] 37) ⟨HR.out.below (drewN_below (Below.refl _ _) _), HY.out.drewN _⟩ ?_
                clear hnq1 hnq2 hgd HR HY x0 x1 x2 x3 x4 x5 y0 y1 y2 y3 y4 y5 b0 b1 b2 b3 b4 b5
                rintro w6 ⟨hR, hY⟩
                have HR := Lib.hid hR; have HY := Lib.hid hY
                clear hR hY
                have y0 := HY.out.cell 0
                have y1 := HY.out.cell 1
                have y2 := HY.out.cell 2
                have y3 := HY.out.cell 3
                have y4 := HY.out.cell 4
                have y5 := HY.out.cell 5
                simp only [List.getElem?_cons_zero, List.getElem?_cons_succ] at y0 y1 y2 y3 y4 y5
                go_wp2_with fail
                refine (HTK.out _ HR.out.lk).mono ?_
                rintro e w7 ⟨rfl, c3, hT7, hP7⟩
                have HR7 := Lib.hid (HR.out.took hlt ⟨yc, ych, yb, yk, ys, yd⟩ HN.out HC.out hT7 hP7)
                clear hT7 hP7 HR HY HTK y0 y1 y2 y3 y4 y5
                go_wp2_with fail
                go_roundw
                case rel => exact ⟨j + 1, by omega, by go_num, c3, _, HR7.out⟩
                case measure => simp [intOf]; omega
              · have htn := tcNe_diff hyx
                by_cases hyb : (⟨yc, ych, yb, yk, ys, yd⟩ : Tc) = l2.before
                · have htb : tcNe ⟨yc, ych, yb, yk, ys, yd⟩ ⟨l2.before.craft, l2.before.chan, l2.before.byp, l2.before.ctl, l2.before.seq, l2.before.data⟩ = false := tcNe_same hyb
                  have HC : Hid ((⟨yc, ych, yb, yk, ys, yd⟩ : Tc) = ⟨xc, xch, xb, xk, xs, xd⟩ ∨ (⟨yc, ych, yb, yk, ys, yd⟩ : Tc) = l2.before) := Lib.hid (.inr hyb)
                  clear hyx hyb
                  have HTK := Lib.hid (show ∀ W', LkM w W' c2 (lkCells c2 l2) l2 → Calls Tryz.prog 39 #[.pointer (some ⟨L, 0, none⟩), .agg #[.int .i64 yc, .int .i64 ych, .bool yb, .bool yk, .int .i64 ys, .string yd]] W' fun e w' => e = .returned (.tuple #[]) ∧ ∃ c3, LkTo W' w' c2 c3 ∧ LkM w w' c3 (lkCells c3 (takeS l2 ⟨yc, ych, yb, yk, ys, yd⟩)) (takeS l2 ⟨yc, ych, yb, yk, ys, yd⟩) from fun W' hP => by
                    have := take_walk ⟨yc, ych, yb, yk, ys, yd⟩ HR.out.bad HR.out.sent (by have := HR.out.came; have := HLC.out; omega) (HR.out.pre hlt ⟨yc, ych, yb, yk, ys, yd⟩ HN.out HC.out) hP
                    rw [HR.out.hL] at this
                    exact this)
                  go_upto_region 13 with fail
                  go_quiet (fail)
                  refine post_any (fun W' => ArrRel w W' L r (.slice (some ⟨q, off, none⟩) ps'.found.length vc) ⟨xc, xch, xb, xk, xs, xd⟩ ps'.found l1 l.came j c2 l2 ∧ Blk W' r9 [.int .i64 yc, .int .i64 ych, .bool yb, .bool yk, .int .i64 ys, .string yd] 37) ⟨HR.out.below (drewN_below (Below.refl _ _) _), HY.out.drewN _⟩ ?_
                  clear hnq1 hnq2 hgd HR HY x0 x1 x2 x3 x4 x5 y0 y1 y2 y3 y4 y5 b0 b1 b2 b3 b4 b5
                  rintro w6 ⟨hR, hY⟩
                  have HR := Lib.hid hR; have HY := Lib.hid hY
                  clear hR hY
                  have y0 := HY.out.cell 0
                  have y1 := HY.out.cell 1
                  have y2 := HY.out.cell 2
                  have y3 := HY.out.cell 3
                  have y4 := HY.out.cell 4
                  have y5 := HY.out.cell 5
                  simp only [List.getElem?_cons_zero, List.getElem?_cons_succ] at y0 y1 y2 y3 y4 y5
                  go_wp2_with fail
                  refine (HTK.out _ HR.out.lk).mono ?_
                  rintro e w7 ⟨rfl, c3, hT7, hP7⟩
                  have HR7 := Lib.hid (HR.out.took hlt ⟨yc, ych, yb, yk, ys, yd⟩ HN.out HC.out hT7 hP7)
                  clear hT7 hP7 HR HY HTK y0 y1 y2 y3 y4 y5
                  go_wp2_with fail
                  go_roundw
                  case rel => exact ⟨j + 1, by omega, by go_num, c3, _, HR7.out⟩
                  case measure => simp [intOf]; omega
                · have htb : tcNe ⟨yc, ych, yb, yk, ys, yd⟩ ⟨l2.before.craft, l2.before.chan, l2.before.byp, l2.before.ctl, l2.before.seq, l2.before.data⟩ = true := tcNe_diff hyb
                  have HC : Hid (¬ ((⟨yc, ych, yb, yk, ys, yd⟩ : Tc) = ⟨xc, xch, xb, xk, xs, xd⟩ ∨ (⟨yc, ych, yb, yk, ys, yd⟩ : Tc) = l2.before)) := Lib.hid (fun h => h.elim hyx hyb)
                  clear hyx hyb
                  go_upto_region 13 with fail
                  go_quiet (fail)
                  refine post_any (fun W' => ArrRel w W' L r (.slice (some ⟨q, off, none⟩) ps'.found.length vc) ⟨xc, xch, xb, xk, xs, xd⟩ ps'.found l1 l.came j c2 l2 ∧ Blk W' r9 [.int .i64 yc, .int .i64 ych, .bool yb, .bool yk, .int .i64 ys, .string yd] 37) ⟨HR.out.below (drewN_below (Below.refl _ _) _), HY.out.drewN _⟩ ?_
                  clear hnq1 hnq2 hgd HR HY x0 x1 x2 x3 x4 x5 y0 y1 y2 y3 y4 y5 b0 b1 b2 b3 b4 b5
                  rintro w6 ⟨hR, hY⟩
                  have HR := Lib.hid hR; have HY := Lib.hid hY
                  clear hR hY
                  have y0 := HY.out.cell 0
                  have y1 := HY.out.cell 1
                  have y2 := HY.out.cell 2
                  have y3 := HY.out.cell 3
                  have y4 := HY.out.cell 4
                  have y5 := HY.out.cell 5
                  simp only [List.getElem?_cons_zero, List.getElem?_cons_succ] at y0 y1 y2 y3 y4 y5
                  have hbl := HR.out.lk.blk
                  rw [HR.out.hL] at hbl
                  have o9 := hbl.cell 9; have f9 := hbl.free 9
                  simp only [lkCells, List.cons_append, List.nil_append, List.getElem?_cons_zero, List.getElem?_cons_succ] at o9
                  clear hbl
                  have hP9 := (HR.out.lk.poke 9 (.bool true)).nums (ca := l2.came) (od := true) (ba := l2.bad) (be := l2.before)
                  rw [HR.out.hL] at hP9
                  have HE := Lib.hid (HR.out.odd hlt ⟨yc, ych, yb, yk, ys, yd⟩ HN.out HC.out)
                  have HP9 := Lib.hid hP9
                  have HL9 := Lib.hid HR.out.hL
                  clear hP9
                  go_wp2_with fail
                  refine bodyPost_ret (v := .tuple #[]) (by simp [results, Tryz.results13, go_sem]) rfl ⟨rfl, c2, HL9.out.trans HCL0.out, ?_⟩
                  rw [← HPS.out, ← HL1.out, HE.out]
                  exact HP9.out
          · obtain rfl : j = ps'.found.length := by omega
            have HR := Lib.hid hR
            have hbl := hR.lk.blk
            rw [hR.hL] at hbl
            have b0 := hbl.cell 11; have b1 := hbl.cell 12; have b2 := hbl.cell 13; have b3 := hbl.cell 14; have b4 := hbl.cell 15; have b5 := hbl.cell 16
            have g0 := hbl.free 11; have g1 := hbl.free 12; have g2 := hbl.free 13; have g3 := hbl.free 14; have g4 := hbl.free 15; have g5 := hbl.free 16
            have hX : Blk wr r [.int .i64 xc, .int .i64 xch, .bool xb, .bool xk, .int .i64 xs, .string xd] 37 := hR.blk
            have x0 := hX.cell 0; have x1 := hX.cell 1; have x2 := hX.cell 2; have x3 := hX.cell 3; have x4 := hX.cell 4; have x5 := hX.cell 5
            simp only [List.getElem?_cons_zero, List.getElem?_cons_succ] at x0 x1 x2 x3 x4 x5
            simp only [lkCells, Tc.cells, List.cons_append, List.nil_append, List.getElem?_cons_zero, List.getElem?_cons_succ] at b0 b1 b2 b3 b4 b5
            have hP9 := ((((((hR.lk.poke 11 (.int .i64 xc)).poke 12 (.int .i64 xch)).poke 13 (.bool xb)).poke 14 (.bool xk)).poke 15 (.int .i64 xs)).poke 16 (.string xd)).nums (ca := l2.came) (od := l2.odd) (ba := l2.bad) (be := ⟨xc, xch, xb, xk, xs, xd⟩)
            rw [hR.hL] at hP9
            have HE := Lib.hid hR.done
            have HP9 := Lib.hid hP9
            have HL9 := Lib.hid hR.hL
            clear hP9 hR hX hbl
            go_wp2_with fail
            go_end0
            refine ⟨rfl, c2, HL9.out.trans HCL0.out, ?_⟩
            rw [← HPS.out, ← HL1.out, HE.out]
            exact HP9.out
end
section
open Go.RowKit
section
variable {P : Program} {ops : Array Oper} {Q : Exit → Act → World → Prop} {md : Region.Mode} {S : World → Prop} {k : Nat}
/-- Each operation ahead of n but x is waited for by a later one that is not x. -/
def sinkX (md : Region.Mode) (ops : Array Oper) (n x : Nat) : Bool :=
  (List.range n).all fun i => i == x || (List.range (n + 1)).any fun j => decide (i < j) && (j != x && Region.waitsFor md ops j i)
theorem tail_waits_x {n x : Nat} {listed : Array Bool} (hs : sinkX md ops n x = true) (hc : Region.chainB md ops n = true) (hn : n < ops.size) (inv : HeadInv md ops n listed) :
    ∀ (d i : Nat), n - i = d → i < n → i ≠ x → listed.getD i true = false → ∀ t, n ≤ t → t ∉ Region.ready md ops listed := by
  intro d
  induction d using Nat.strongRecOn with
  | _ d ih =>
    intro i hd hi hix hun t ht hr
    obtain ⟨_, ot, hot, hall⟩ := mem_ready.1 hr
    have htlt : t < ops.size := (Array.getElem?_eq_some_iff.1 hot).1
    by_cases htn : t = n
    · subst htn
      have h1 := List.all_eq_true.1 hs i (List.mem_range.2 hi)
      simp only [Bool.or_eq_true, beq_iff_eq] at h1
      rcases h1 with h1 | h1
      · exact hix h1
      obtain ⟨j, hj, hj2⟩ := List.any_eq_true.1 h1
      simp only [Bool.and_eq_true, decide_eq_true_eq, bne_iff_ne] at hj2
      obtain ⟨oj, hoj, e, he, hb, hon⟩ := Region.waitsFor_spec hj2.2.2
      have hjle : j ≤ t := by have := List.mem_range.1 hj; omega
      by_cases hjt : j = t
      · subst hjt
        have : oj = ot := Option.some.inj (hoj.symm.trans hot)
        subst this
        have h2 := hall e he hb
        rw [hon, getD_both hun] at h2
        cases h2
      · cases hl : listed.getD j false with
        | true =>
          have h2 := inv.closed j oj hoj hl e he hb
          rw [hon, getD_both hun] at h2
          cases h2
        | false =>
          have hjs : j < listed.size := by rw [inv.size]; omega
          exact ih (t - j) (by omega) j rfl (by omega) hj2.2.1 (getD_in hjs hl) t (Nat.le_refl _) hr
    · have h1 := List.all_eq_true.1 hc t (List.mem_range.2 htlt)
      simp only [Bool.or_eq_true, decide_eq_true_eq] at h1
      rcases h1 with h1 | h1
      · omega
      · obtain ⟨o', ho', e, he, hb, hon⟩ := Region.waitsFor_spec h1
        have : o' = ot := Option.some.inj (ho'.symm.trans hot)
        subst this
        have h2 := hall e he hb
        rw [hon, getD_both (inv.tail (t - 1) (by omega) (by omega))] at h2
        cases h2
/-- S holds behind each operation while k, the first store, is still to come. -/
def WpEnt (P : Program) (md : Region.Mode) (ops : Array Oper) (Q : Exit → Act → World → Prop) (S : World → Prop) (k : Nat) : Nat → Array Bool → Act → World → Prop
  | 0, listed, a, w => Region.ready md ops listed = [] ∧ Q .normal a w
  | f + 1, listed, a, w => (Region.ready md ops listed = [] → Q .normal a w) ∧
    ∀ i ∈ Region.ready md ops listed, wpOp P ops Q i (fun b v => (i ≠ k → listed.getD k true = false → S v) ∧ WpEnt P md ops Q S k f (listed.setIfInBounds i true) b v) a w
theorem WpEnt.any : ∀ (f : Nat) (listed : Array Bool) (a : Act) (w : World), WpEnt P md ops Q S k f listed a w → wpAny P md ops Q f listed a w
  | 0, _, _, _, h => h
  | f + 1, _, _, _, h => ⟨h.1, fun i hi => wpOp_mono (fun b v g => WpEnt.any f _ b v g.2) (h.2 i hi)⟩
theorem WpEnt.first {x i : Nat} {oi : Oper} {v : Value} (hi : ops[i]? = some oi) (hsel : ∀ (j : Nat) (o : Oper) cs b, ops[j]? = some o → o.op ≠ .select cs b)
    (hQ : ∀ c a w, Q (.panic c) (a.put oi.dst v) w → Q (.panic c) a w) (hk : k < ops.size) (hik : i < k) (hix : i ≠ x) (hs : sinkX md ops k x = true) (hc : Region.chainB md ops k = true) (f : Nat) :
    ∀ (listed : Array Bool) (a : Act) (w : World), HeadInv md ops k listed →
      (∀ j oj, ops[j]? = some oj → j ≠ i → listed.getD j true = false → (∀ e ∈ oj.after, Region.binds md e = true → e.on ≠ i) → oi.apart ops oj = true) →
      i ∈ Region.ready md ops listed → YieldsIf P ops S oi v a → S w →
      WpEnt P md ops Q S k f (listed.setIfInBounds i true) (a.put oi.dst v) w → WpEnt P md ops Q S k (f + 1) listed a w := by
  induction f with
  | zero =>
    intro listed a w _ _ hr hy hS H
    refine ⟨fun h => absurd hr (by rw [h]; simp), fun j hj => ?_⟩
    rcases Decidable.em (j = i) with e | e
    · subst e; exact hy.wpOp hi hS ⟨fun _ _ => hS, H⟩
    · exact absurd (ready_mono hj e) (by rw [H.1]; simp)
  | succ f ih =>
    intro listed a w inv hfree hr hy hS H
    refine ⟨fun h => absurd hr (by rw [h]; simp), fun j hj => ?_⟩
    rcases Decidable.em (j = i) with e | e
    · subst e; exact hy.wpOp hi hS ⟨fun _ _ => hS, H⟩
    have hri := (mem_ready.1 hr).1
    have hjk : j < k := by
      rcases Nat.lt_or_ge j k with h | h
      · exact h
      · exact absurd hj (tail_waits_x hs hc hk inv (k - i) i rfl hik hix hri j h)
    obtain ⟨hun, oj, hoj, hall⟩ := mem_ready.1 hj
    have hno : ∀ g ∈ oj.after, Region.binds md g = true → g.on ≠ i := by
      intro g hg hb hgi
      have h1 := hall g hg hb
      rw [hgi] at h1
      by_cases hz : i < listed.size
      · simp [hz] at hri h1; exact absurd h1 (by simp [hri])
      · simp [Array.getElem?_eq_none (Nat.le_of_not_lt hz)] at h1
    have hfree2 : ∀ j' oj', ops[j']? = some oj' → j' ≠ i → (listed.setIfInBounds j true).getD j' true = false → (∀ e ∈ oj'.after, Region.binds md e = true → e.on ≠ i) → oi.apart ops oj' = true := by
      intro j' oj' h1 h2 h3 h4
      refine hfree j' oj' h1 h2 ?_ h4
      rcases Decidable.em (j = j') with e2 | e2
      · exact e2 ▸ hun
      · rwa [getD_set_ne true e2] at h3
    refine wpOp_mono ?_ (wpOp_putIf hoj (hfree j oj hoj e hun hno) (fun cs b => hsel i oi cs b hi) (fun cs b => hsel j oj cs b hoj) hQ hy (H.2 j (ready_mono hj e)))
    rintro b u ⟨hyb, hSu, hW⟩
    have hu := hSu (Nat.ne_of_lt hjk) (by rw [getD_set_ne true (Nat.ne_of_lt hik)]; exact inv.tail k (Nat.le_refl _) hk)
    exact ⟨fun _ _ => hu, ih _ b u (inv.set hj hjk) hfree2 (ready_mono hr (Ne.symm e)) hyb hu (by rw [Array.setIfInBounds_comm _ _ e]; exact hW)⟩
/-- What yields in every world may be taken first. -/
theorem WpEnt.firstP {i : Nat} {oi : Oper} {v : Value} (hi : ops[i]? = some oi) (hsel : ∀ (j : Nat) (o : Oper) cs b, ops[j]? = some o → o.op ≠ .select cs b)
    (hQ : ∀ c a w, Q (.panic c) (a.put oi.dst v) w → Q (.panic c) a w) (hik : i ≠ k) (f : Nat) :
    ∀ (listed : Array Bool) (a : Act) (w : World),
      (∀ j oj, ops[j]? = some oj → j ≠ i → listed.getD j true = false → (∀ e ∈ oj.after, Region.binds md e = true → e.on ≠ i) → oi.apart ops oj = true) →
      i ∈ Region.ready md ops listed → YieldsIf P ops (fun _ => True) oi v a → (listed.getD k true = false → S w) →
      WpEnt P md ops Q S k f (listed.setIfInBounds i true) (a.put oi.dst v) w → WpEnt P md ops Q S k (f + 1) listed a w := by
  induction f with
  | zero =>
    intro listed a w _ hr hy hS H
    refine ⟨fun h => absurd hr (by rw [h]; simp), fun j hj => ?_⟩
    rcases Decidable.em (j = i) with e | e
    · subst e; exact hy.wpOp hi trivial ⟨fun _ h => hS h, H⟩
    · exact absurd (ready_mono hj e) (by rw [H.1]; simp)
  | succ f ih =>
    intro listed a w hfree hr hy hS H
    refine ⟨fun h => absurd hr (by rw [h]; simp), fun j hj => ?_⟩
    rcases Decidable.em (j = i) with e | e
    · subst e; exact hy.wpOp hi trivial ⟨fun _ h => hS h, H⟩
    have hri := (mem_ready.1 hr).1
    obtain ⟨hun, oj, hoj, hall⟩ := mem_ready.1 hj
    have hno : ∀ g ∈ oj.after, Region.binds md g = true → g.on ≠ i := by
      intro g hg hb hgi
      have h1 := hall g hg hb
      rw [hgi] at h1
      by_cases hz : i < listed.size
      · simp [hz] at hri h1; exact absurd h1 (by simp [hri])
      · simp [Array.getElem?_eq_none (Nat.le_of_not_lt hz)] at h1
    have hfree2 : ∀ j' oj', ops[j']? = some oj' → j' ≠ i → (listed.setIfInBounds j true).getD j' true = false → (∀ e ∈ oj'.after, Region.binds md e = true → e.on ≠ i) → oi.apart ops oj' = true := by
      intro j' oj' h1 h2 h3 h4
      refine hfree j' oj' h1 h2 ?_ h4
      rcases Decidable.em (j = j') with e2 | e2
      · exact e2 ▸ hun
      · rwa [getD_set_ne true e2] at h3
    refine wpOp_mono ?_ (wpOp_putIf hoj (hfree j oj hoj e hun hno) (fun cs b => hsel i oi cs b hi) (fun cs b => hsel j oj cs b hoj) hQ hy (H.2 j (ready_mono hj e)))
    rintro b u ⟨hyb, hSu, hW⟩
    have hSu2 : j ≠ k → listed.getD k true = false → S u := fun h1 h2 => hSu h1 (by rw [getD_set_ne true hik]; exact h2)
    refine ⟨hSu2, ih _ b u hfree2 (ready_mono hr (Ne.symm e)) hyb (fun hl => ?_) (by rw [Array.setIfInBounds_comm _ _ e]; exact hW)⟩
    by_cases hjk : j = k
    · subst hjk
      by_cases hz : j < listed.size
      · simp [hz] at hl
      · simp [Array.getElem?_eq_none (Nat.le_of_not_lt hz)] at hl
    · exact hSu2 hjk (by rwa [getD_set_ne true hjk] at hl)
theorem WpEnt.take (x : Nat) {i : Nat} (d : Option Tmp) {oi : Oper} {v : Value} {f : Nat} {listed : Array Bool} {a : Act} {w : World} (hi : ops[i]? = some oi) (hd : oi.dst = d) (hsl : Region.noSelect ops = true) (hf : Region.free md ops listed i = true)
    (hr : (Region.ready md ops listed).contains i = true) (hQ : ∀ c a w, Q (.panic c) (a.put d v) w → Q (.panic c) a w) (hb : (decide (k < ops.size) && decide (i < k) && i != x && sinkX md ops k x && Region.chainB md ops k) = true)
    (inv : HeadInv md ops k listed) (hS : S w) (hw : Region.wanted oi (yielded ops a.tmps) = true) (hy : ∀ w, S w → (execOp a.eval oi).run P w = .ok (.value v) w)
    (h : HeadInv md ops k (listed.setIfInBounds i true) → WpEnt P md ops Q S k f (listed.setIfInBounds i true) (a.put d v) w) : WpEnt P md ops Q S k (f + 1) listed a w := by
  subst hd
  simp only [Bool.and_eq_true, decide_eq_true_eq, bne_iff_ne] at hb
  have hm : i ∈ Region.ready md ops listed := by simpa using hr
  exact WpEnt.first hi (Region.noSelect_spec hsl) hQ hb.1.1.1.1 hb.1.1.1.2 hb.1.1.2 hb.1.2 hb.2 f listed a w inv (Region.free_spec hi hf) hm (.inl ⟨hw, hy⟩) hS (h (inv.set hm hb.1.1.1.2))
theorem WpEnt.takeP {i : Nat} (d : Option Tmp) {oi : Oper} {v : Value} {f : Nat} {listed : Array Bool} {a : Act} {w : World} (hi : ops[i]? = some oi) (hd : oi.dst = d) (hsl : Region.noSelect ops = true) (hf : Region.free md ops listed i = true)
    (hr : (Region.ready md ops listed).contains i = true) (hQ : ∀ c a w, Q (.panic c) (a.put d v) w → Q (.panic c) a w) (hik : i < k)
    (inv : HeadInv md ops k listed) (hS : S w) (hw : Region.wanted oi (yielded ops a.tmps) = true) (hy : ∀ w, (execOp a.eval oi).run P w = .ok (.value v) w)
    (h : HeadInv md ops k (listed.setIfInBounds i true) → WpEnt P md ops Q S k f (listed.setIfInBounds i true) (a.put d v) w) : WpEnt P md ops Q S k (f + 1) listed a w := by
  subst hd
  have hm : i ∈ Region.ready md ops listed := by simpa using hr
  exact WpEnt.firstP hi (Region.noSelect_spec hsl) hQ (Nat.ne_of_lt hik) f listed a w (Region.free_spec hi hf) hm (.inl ⟨hw, fun w _ => hy w⟩) (fun _ => hS) (h (inv.set hm hik))
/-- Each of the operations rs comes up next. -/
def EachEnt (P : Program) (md : Region.Mode) (ops : Array Oper) (Q : Exit → Act → World → Prop) (S : World → Prop) (k f : Nat) (listed : Array Bool) (a : Act) (w : World) (rs : List Nat) : Prop :=
  ∀ i ∈ rs, wpOp P ops Q i (fun b v => (i ≠ k → listed.getD k true = false → S v) ∧ WpEnt P md ops Q S k f (listed.setIfInBounds i true) b v) a w
theorem EachEnt.nil {f : Nat} {listed : Array Bool} {a : Act} {w : World} : EachEnt P md ops Q S k f listed a w [] := fun _ h => by cases h
theorem EachEnt.cons {f : Nat} {listed : Array Bool} {a : Act} {w : World} {i : Nat} (d : Option Tmp) {o : Oper} {rs : List Nat} (ho : ops[i]? = some o) (hd : o.dst = d) (hik : i < k) (hr : (Region.ready md ops listed).contains i = true) (inv : HeadInv md ops k listed)
    (h : ∀ K : Act → World → Prop, Shut (∀ u v, S v → (HeadInv md ops k (listed.setIfInBounds i true) → S v → WpEnt P md ops Q S k f (listed.setIfInBounds i true) (a.put d u) v) → K (a.put o.dst u) v) →
      Shut (∀ b v, S v → (HeadInv md ops k (listed.setIfInBounds i true) → S v → WpEnt P md ops Q S k f (listed.setIfInBounds i true) b v) → K b v) →
      if Region.wanted o (yielded ops a.tmps) = true then Oper.wp P o a w K Q else K (a.put o.dst undef) w)
    (hs : EachEnt P md ops Q S k f listed a w rs) : EachEnt P md ops Q S k f listed a w (i :: rs) := fun j hj => by
  subst hd
  rcases List.mem_cons.1 hj with rfl | hj
  · exact wpOp_step ho (fun K hK => h K (fun u v hS hW => hK _ v ⟨fun _ _ => hS, hW (inv.set (by simpa using hr) hik) hS⟩) (fun b v hS hW => hK b v ⟨fun _ _ => hS, hW (inv.set (by simpa using hr) hik) hS⟩))
  · exact hs j hj
theorem EachEnt.past {i f : Nat} {listed : Array Bool} {a : Act} {w : World} {o : Oper} (ho : ops[i]? = some o) (hik : (i == k || listed.getD k true) = true)
    (h : ∀ K : Act → World → Prop, Shut (∀ b v, WpEnt P md ops Q S k f (listed.setIfInBounds i true) b v → K b v) → if Region.wanted o (yielded ops a.tmps) = true then Oper.wp P o a w K Q else K (a.put o.dst undef) w) : EachEnt P md ops Q S k f listed a w [i] := fun j hj => by
  obtain rfl : j = i := by simpa using hj
  refine wpOp_step ho (fun K hK => h K (fun b v hW => hK b v ⟨fun e hl => ?_, hW⟩))
  simp only [Bool.or_eq_true, beq_iff_eq] at hik
  rcases hik with h1 | h1
  · exact absurd h1 e
  · rw [hl] at h1; cases h1
theorem WpEnt.ready {rs : List Nat} {f : Nat} {listed : Array Bool} {a : Act} {w : World} (hr : Region.ready md ops listed = rs) (hne : rs ≠ []) (h : EachEnt P md ops Q S k f listed a w rs) : WpEnt P md ops Q S k (f + 1) listed a w :=
  ⟨fun h0 => absurd (hr ▸ h0) hne, hr ▸ h⟩
theorem WpEnt.done {listed : Array Bool} {a : Act} {w : World} (hr : Region.ready md ops listed = []) (h : Q .normal a w) : ∀ f, WpEnt P md ops Q S k f listed a w
  | 0 => ⟨hr, h⟩
  | _ + 1 => ⟨fun _ => h, by rw [hr]; simp⟩
theorem region_ent {id : Nat} {a : Act} {w : World} (S : World → Prop) (k : Nat) (hm : P.follows .mixedOrders = true) (hS : S w.drew)
    (h : HeadInv .any ops k (Array.replicate ops.size false) → S w.drew → WpEnt P .any ops Q S k ops.size (Array.replicate ops.size false) a w.drew) : (Code.region id ops true).wp P Q a w :=
  wp_region_any hm (WpEnt.any _ _ _ _ (h (HeadInv.start k) hS))
end
end
section
open Go.RowKit
theorem build_tc (W : World) (x : Tc) : (Instr.buildSlice 34 1 #[(0, x.val)]).run Tryz.prog W = .ok (.slice (some ⟨W.heap.size, 0, none⟩) 1 1) (W.alloc (Obj.cells x.cells.toArray 37)) := by cases x; kernel_rfl
theorem build_w1 (W : World) (n : Nat) : (Instr.buildSlice 35 1 #[(0, .int .u32 n)]).run Tryz.prog W = .ok (.slice (some ⟨W.heap.size, 0, none⟩) 1 1) (W.alloc (Obj.cells (u32Row [n]).toArray 41)) := by kernel_rfl
theorem LkTo.set {W W' : World} {c c' : Lc} {T g' : List Nat} (i : Nat) (k : Keep T W W') (hT : ∀ x ∈ T, x ∈ c.gs.flatten) (hgs : c'.gs = c.gs.set i g') (hg : ∀ x ∈ g', x ∈ c.gs.flatten ∨ W.heap.size ≤ x) (hL : c'.L = c.L) : LkTo W W' c c' := by
  have kt := LkTo.of (c := c) k (fun x hx => .inl (hT x hx))
  refine ⟨kt.keep, fun x hx => ?_, hL⟩
  obtain ⟨u, hu, hx⟩ := List.mem_flatten.1 hx
  rw [hgs] at hu
  rcases List.mem_or_eq_of_mem_set hu with hu | rfl
  · exact .inl (List.mem_flatten.2 ⟨u, hu, hx⟩)
  · exact hg x hx
theorem mv_of {W W1 : World} {v v' : Value} (hL : W.heap.size ≤ W1.heap.size) (hm : v'.ownBlock = v.ownBlock ∨ v'.ownBlock = some W1.heap.size) : Mv W v v' := fun k hk => by
  rcases hm with e | e
  · exact .inl (by rw [← e]; exact hk)
  · right
    rw [e] at hk; injection hk with hk; omega
theorem own_in {W : World} {c : Lc} {v v' : Value} (hv : ∀ x ∈ v.ownBlock.toList, x ∈ c.gs.flatten) (hm : Mv W v v') : ∀ x ∈ v'.ownBlock.toList, x ∈ c.gs.flatten ∨ W.heap.size ≤ x := fun x hx => by
  have e : v'.ownBlock = some x := by simpa using hx
  rcases hm x e with e | e
  · exact .inl (hv x (by simp [e]))
  · exact .inr e
section
variable {w W W1 W2 : World} {c : Lc} {cs : List Value} {l : Ls} {v' : Value}
theorem LkM.pushF (h : LkM w W c cs l) {q : List Tc} (hL : Below W.heap.size W W1) (hk : Keep c.fv.ownBlock.toList W1 W2) (hm : v'.ownBlock = c.fv.ownBlock ∨ v'.ownBlock = some W1.heap.size) (hQ : QRow W2 0 37 6 v' q.length (tcRow q)) :
    LkM w W2 { c with fv := v' } cs { l with frames := q } ∧ LkTo W W2 c { c with fv := v' } := by
  have k2 := ((Keep.refl c.fv.ownBlock.toList W).below hL (Nat.le_refl _)).trans hk
  have mv := mv_of hL.size hm
  exact ⟨h.rowF k2 mv hQ, LkTo.set 5 k2 c.inF rfl (own_in c.inF mv) rfl⟩
theorem LkM.pushU (h : LkM w W c cs l) {q : List ByteArray} (hL : Below W.heap.size W W1) (hk : Keep c.uv.ownBlock.toList W1 W2) (hm : v'.ownBlock = c.uv.ownBlock ∨ v'.ownBlock = some W1.heap.size) (hQ : QRow W2 0 9 1 v' q.length (stRow q)) :
    LkM w W2 { c with uv := v' } cs { l with units := q } ∧ LkTo W W2 c { c with uv := v' } := by
  have k2 := ((Keep.refl c.uv.ownBlock.toList W).below hL (Nat.le_refl _)).trans hk
  have mv := mv_of hL.size hm
  exact ⟨h.rowU k2 mv hQ, LkTo.set 6 k2 c.inU rfl (own_in c.inU mv) rfl⟩
theorem LkM.pushS (h : LkM w W c cs l) {q : List ByteArray} (hL : Below W.heap.size W W1) (hk : Keep c.sv.ownBlock.toList W1 W2) (hm : v'.ownBlock = c.sv.ownBlock ∨ v'.ownBlock = some W1.heap.size) (hQ : QRow W2 0 9 1 v' q.length (stRow q)) :
    LkM w W2 { c with sv := v' } cs { l with sent := q } ∧ LkTo W W2 c { c with sv := v' } := by
  have k2 := ((Keep.refl c.sv.ownBlock.toList W).below hL (Nat.le_refl _)).trans hk
  have mv := mv_of hL.size hm
  exact ⟨h.rowS k2 mv hQ, LkTo.set 4 k2 c.inS rfl (own_in c.inS mv) rfl⟩
theorem LkM.pushW (h : LkM w W c cs l) {q : List Nat} (hL : Below W.heap.size W W1) (hk : Keep c.wv.ownBlock.toList W1 W2) (hm : v'.ownBlock = c.wv.ownBlock ∨ v'.ownBlock = some W1.heap.size) (hQ : QRow W2 0 41 1 v' q.length (u32Row q)) :
    LkM w W2 { c with wv := v' } cs { l with words := q } ∧ LkTo W W2 c { c with wv := v' } := by
  have k2 := ((Keep.refl c.wv.ownBlock.toList W).below hL (Nat.le_refl _)).trans hk
  have mv := mv_of hL.size hm
  exact ⟨h.rowW k2 mv hQ, LkTo.set 7 k2 c.inW rfl (own_in c.inW mv) rfl⟩
end
/-- What the reads of a region find. -/
def RdL (L r : Nat) (cs xs : List Value) (W : World) : Prop := Blk W L cs 39 ∧ Blk W r xs 37
end
end Go.Proofs.YtgopighmifpefaaGreatDoor
