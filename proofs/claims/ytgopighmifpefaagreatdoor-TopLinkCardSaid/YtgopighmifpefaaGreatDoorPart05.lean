/- What is proved here: a part of the proof of TopLink (texts Fo8 Law Open O14 T1 C3 C6 T2). No condition. -/
import Derived.ProofKit
import Derived.OpenShut
import Derived.ShutString
import Derived.Carry
import Derived.Deep.Slices
import Derived.Deep.Fields
import Derived.Deep.Strs
import Derived.ChangeArms
import Derived.Laws.MakeOwn
import Derived.Test.YtgopighmifpefaaGreatDoorPart01
import Derived.Test.YtgopighmifpefaaGreatDoorPart02
import Derived.Test.YtgopighmifpefaaGreatDoorPart04
set_option linter.unusedVariables false
set_option linter.unusedSimpArgs false
namespace Go.Proofs.YtgopighmifpefaaGreatDoor
section
open Go.RowKit
section
def Ut.on (u : Ut) : Ut := ⟨u.id, u.data, true⟩
def Ut.off (u : Ut) : Ut := ⟨u.id, u.data, false⟩
theorem utRow_at : ∀ (l : List Ut) (k : Nat) (h : k < l.length), (utRow l)[k * 3]? = some (.int .i64 l[k].id) ∧ (utRow l)[k * 3 + 1]? = some (.string l[k].data) ∧ (utRow l)[k * 3 + 2]? = some (.bool l[k].mark)
  | [], k, h => by simp at h
  | u :: l, 0, _ => ⟨rfl, rfl, rfl⟩
  | u :: l, k + 1, h => by
    obtain ⟨h1, h2, h3⟩ := utRow_at l k (by simpa using h)
    have e1 : (k + 1) * 3 = k * 3 + 3 := by omega
    have hu : ∀ j, (utRow (u :: l))[j + 3]? = (utRow l)[j]? := fun j => by
      show (u.cells ++ utRow l)[j + 3]? = _
      rw [List.getElem?_append_right (by simp [Ut.cells])]
      simp [Ut.cells]
    refine ⟨?_, ?_, ?_⟩
    · rw [e1, hu]; exact h1
    · rw [e1, show k * 3 + 3 + 1 = (k * 3 + 1) + 3 by omega, hu]; exact h2
    · rw [e1, show k * 3 + 3 + 2 = (k * 3 + 2) + 3 by omega, hu]; exact h3
theorem utRow_set : ∀ (l : List Ut) (k : Nat) (h : k < l.length) (b : Bool), (utRow l).set (k * 3 + 2) (.bool b) = utRow (l.set k ⟨l[k].id, l[k].data, b⟩)
  | [], k, h, _ => by simp at h
  | u :: l, 0, _, b => rfl
  | u :: l, k + 1, h, b => by
    have ih := utRow_set l k (by simpa using h) b
    have e1 : (k + 1) * 3 + 2 = (k * 3 + 2) + 3 := by omega
    show (u.cells ++ utRow l).set _ _ = u.cells ++ utRow (l.set k _)
    rw [e1, List.set_append_right _ _ (by simp [Ut.cells]), show k * 3 + 2 + 3 - u.cells.length = k * 3 + 2 by simp [Ut.cells], ih]
    simp
theorem q_setIn {w : World} {base : Nat} {e : TypeId} {sz q off n cap : Nat} {xs : List Value} (h : QRow w base e sz (.slice (some ⟨q, off, none⟩) n cap) n xs) (j : Nat) (hj : j < n * sz) (u : Value) :
    QRow (w.setCell ⟨q, off + j, none⟩ u) base e sz (.slice (some ⟨q, off, none⟩) n cap) n (xs.set j u) := by
  obtain ⟨h1, h2, h3⟩ := h
  refine ⟨by simpa using h1, h2, ?_⟩
  rcases h3 with ⟨hv, _⟩ | ⟨g, o, c, cur, hv, hb, hg, a1, a2, a3, a4⟩
  · cases hv
  · injection hv with e1 e2 e3; injection e1 with e1; injection e1 with e1 e4
    subst e1 e3 e4
    refine .inr ⟨q, off, cap, cur.setIfInBounds (off + j) u, rfl, hb, ?_, a1, a2, by simpa using a3, ?_⟩
    · simp [World.setCell, Array.getElem?_modify, hg]
    · rw [Array.toList_setIfInBounds, List.drop_set, if_neg (by omega), List.take_set, a4]
      congr 1
      omega
/-- A unit of those that were sent is marked, or not any more. -/
theorem Pt.mark {w W : World} {g : Nat} {S S1 : List Nat} {s : Fs} {ve vw vb : Value} {q off cap : Nat} (hT : Pt w W g S S1 s) (h : FopAt W g s ve vw (.slice (some ⟨q, off, none⟩) s.sent.length cap) vb) (hS : ∀ k ∈ own g ve vw (.slice (some ⟨q, off, none⟩) s.sent.length cap) vb, k ∈ S1) (k : Nat) (hk : k < s.sent.length) (b : Bool) :
    Pt w (W.setCell ⟨q, off + (k * 3 + 2), none⟩ (.bool b)) g S S1 { s with sent := s.sent.set k ⟨s.sent[k].id, s.sent[k].data, b⟩ } ∧ FopAt (W.setCell ⟨q, off + (k * 3 + 2), none⟩ (.bool b)) g { s with sent := s.sent.set k ⟨s.sent[k].id, s.sent[k].data, b⟩ } ve vw (.slice (some ⟨q, off, none⟩) s.sent.length cap) vb := by
  have hgq : g ≠ q := fun e => h.gs (by rw [e]; rfl)
  have hq : (Value.slice (some ⟨q, off, none⟩) s.sent.length cap).ownBlock = some q := rfl
  have hF : FopAt (W.setCell ⟨q, off + (k * 3 + 2), none⟩ (.bool b)) g { s with sent := s.sent.set k ⟨s.sent[k].id, s.sent[k].data, b⟩ } ve vw (.slice (some ⟨q, off, none⟩) s.sent.length cap) vb := by
    refine ⟨?_, q_set h.ev (fun e => h.es q e hq) _, q_set h.wa (fun e => h.ws q e hq) _, ?_, q_set h.bp (fun e => h.sb q hq e) _, h.ge, h.gw, h.gs, h.gb, h.ew, h.es, h.eb, h.ws, h.wb, h.sb⟩
    · exact h.blk.set_far hgq _
    · have := q_setIn h.se (k * 3 + 2) (by omega) (.bool b)
      rw [utRow_set s.sent k hk b] at this
      simpa using this
  refine ⟨⟨⟨_, _, _, _, hF, hS⟩, hT.keep.setCell (p := ⟨q, off + (k * 3 + 2), none⟩) (hT.new q (hS q (mem_own.2 (.inr (.inr (.inr (.inl hq))))))) _, hT.new⟩, hF⟩
def markK (l : List Ut) (k : Nat) : List Ut := (l.take k).map Ut.on ++ l.drop k
theorem markK_len (l : List Ut) (k : Nat) : (markK l k).length = l.length := by simp [markK]; omega
theorem markK_at (l : List Ut) (k : Nat) (h : k < l.length) : (markK l k)[k]? = some l[k] := by
  unfold markK
  rw [List.getElem?_append_right (by simp; omega)]
  simp only [List.length_map, List.length_take]
  rw [Nat.min_eq_left (by omega), Nat.sub_self, List.getElem?_drop, Nat.add_zero, List.getElem?_eq_getElem h]
theorem markK_set (l : List Ut) (k : Nat) (h : k < l.length) : (markK l k).set k l[k].on = markK l (k + 1) := by
  unfold markK
  rw [List.set_append_right _ _ (by simp; omega)]
  simp only [List.length_map, List.length_take]
  rw [Nat.min_eq_left (by omega), Nat.sub_self, List.drop_eq_getElem_cons h, List.set_cons_zero, List.take_succ_eq_append_getElem h, List.map_append, List.append_assoc]
  rfl
theorem markK_all (l : List Ut) : markK l l.length = l.map Ut.on := by simp [markK]
def markF (s : Fs) : Fs := { s with sent := s.sent.map Ut.on }
set_option maxHeartbeats 2000000 in
set_option maxRecDepth 100000 in
theorem mark_in (s : Fs) (g : Nat) (S : List Nat) (w : World) (hn : s.sent.length ≤ 1000000) (h : FopIn w g S s) : Calls Tryz.prog 32 #[.pointer (some ⟨g, 0, none⟩)] w fun x w' => x = .returned (.tuple #[]) ∧ FopTo w w' g S (markF s) := by
  obtain ⟨ve, vw, vs, vb, hF, hS⟩ := h
  obtain ⟨a, c, hv⟩ := qform hF.se
  subst hv
  have HT := Lib.hid (Pt.refl ⟨ve, vw, _, vb, hF, hS⟩)
  have HS := Lib.hid hS
  have HF := Lib.hid (show FopAt w g { s with sent := markK s.sent 0 } ve vw (.slice a s.sent.length c) vb from hF)
  have HT := Lib.hid (show Pt w w g S S { s with sent := markK s.sent 0 } from HT.out)
  have c14 := hF.blk.cell 14
  simp only [Fs.cells, List.getElem?_cons_zero, List.getElem?_cons_succ] at c14
  clear hF hS
  go_enter Tryz.func32, Tryz.ntmps32
  go_wp2_with fail
  clear c14
  go_loopw [9] (fun iv wr => ∃ k : Nat, k ≤ s.sent.length ∧ iv = .int .i64 k ∧ FopAt wr g { s with sent := markK s.sent k } ve vw (.slice a s.sent.length c) vb ∧ Pt w wr g S S { s with sent := markK s.sent k }) (fun iv _ => s.sent.length - (intOf iv).toNat)
  case atStart => exact ⟨0, Nat.zero_le _, rfl, HF.out, HT.out⟩
  case round =>
    obtain ⟨k, hk, rfl, hF, hT⟩ := hrel
    by_cases hlt : k < s.sent.length
    · have c14 := hF.blk.cell 14
      simp only [Fs.cells, List.getElem?_cons_zero, List.getElem?_cons_succ] at c14
      have hlen := markK_len s.sent k
      obtain ⟨q, off, cap, hve, -, hqw, hcap, hcl, hfr⟩ := q_cells hF.se (show 0 < (markK s.sent k).length by omega)
      injection hve with e1 e2 e3
      clear e2
      subst e1 e3
      have hFq : FopAt wr g { s with sent := markK s.sent k } ve vw (.slice (some ⟨q, off, none⟩) (markK s.sent k).length c) vb := by rw [hlen]; exact hF
      have hSq : ∀ i ∈ own g ve vw (.slice (some ⟨q, off, none⟩) (markK s.sent k).length c) vb, i ∈ S := by rw [hlen]; exact HS.out
      have hm := hT.mark hFq hSq k (show k < (markK s.sent k).length by omega) true
      have hkk : (markK s.sent k)[k]'(by omega) = s.sent[k] := by
        have := markK_at s.sent k hlt
        rw [List.getElem?_eq_getElem (by omega)] at this
        exact Option.some.inj this
      have hst : (markK s.sent k).set k ⟨((markK s.sent k)[k]'(by omega)).id, ((markK s.sent k)[k]'(by omega)).data, true⟩ = markK s.sent (k + 1) := by
        rw [hkk]; exact markK_set s.sent k hlt
      simp only [hst, hlen] at hm
      obtain ⟨bm, e0⟩ : ∃ bm, wr.cell? ⟨q, off + (k * 3 + 2), none⟩ = some (.bool bm) := ⟨_, hcl _ _ (utRow_at (markK s.sent k) k (by omega)).2.2⟩
      have e1 : wr.frozen? ⟨q, off + (k * 3 + 2), none⟩ = false := hfr _
      have HM := Lib.hid hm
      rw [← Nat.add_assoc] at e0 e1
      clear hm hst hkk hSq hFq hcl hfr hF hT hlen
      go_wp2_with fail
      go_roundw
      case rel => exact ⟨k + 1, by omega, by go_num, HM.out.2, HM.out.1⟩
      case measure => simp [intOf]; omega
    · obtain rfl : k = s.sent.length := by omega
      have HT := Lib.hid hT
      clear hF hT
      go_wp2_with fail
      go_end0
      have := HT.out
      rw [markK_all] at this
      exact ⟨rfl, this.to⟩
end
section
def newF (c ch win lim tm : Int) : Fs := ⟨c, ch, win, lim, tm, 0, 0, 0, 0, 0, 0, 0, false, false, false, false, false, [], [], [], []⟩
set_option maxHeartbeats 2000000 in
set_option maxRecDepth 100000 in
theorem foNew_ok (c ch win lim tm : Int) (w : World) (h1 : 0 ≤ c) (h2 : c ≤ 255) (h3 : 0 ≤ ch) (h4 : ch < 8) (h5 : 1 ≤ win) (h6 : win ≤ 127) (h7 : 1 ≤ lim) (h8 : lim ≤ 100) (h9 : 1 ≤ tm) (ha : tm ≤ 1073741824) :
    Calls Tryz.prog 15 #[.int .i64 c, .int .i64 ch, .int .i64 win, .int .i64 lim, .int .i64 tm] w fun e w' => e = .returned (.tuple #[.pointer (some ⟨w.heap.size, 0, none⟩), .int .i64 0]) ∧ Below w.heap.size w w' ∧ FopIn w' w.heap.size [w.heap.size] (newF c ch win lim tm) := by
  have HB := Lib.hid (Blk.new w ((newF c ch win lim tm).cells (.slice none 0 0) (.slice none 0 0) (.slice none 0 0) (.slice none 0 0)) 72)
  have HL := Lib.hid ((Below.refl w.heap.size w).alloc (Nat.le_refl _) (Obj.cells ((newF c ch win lim tm).cells (.slice none 0 0) (.slice none 0 0) (.slice none 0 0) (.slice none 0 0)).toArray 72))
  go_enter Tryz.func15, Tryz.ntmps15
  go_wp2_with fail
  go_ret2
  refine ⟨rfl, HL.out, .slice none 0 0, .slice none 0 0, .slice none 0 0, .slice none 0 0, ⟨HB.out, q_nil _ _ _ _, q_nil _ _ _ _, q_nil _ _ _ _, q_nil _ _ _ _, ?_, ?_, ?_, ?_, ?_, ?_, ?_, ?_, ?_, ?_⟩, ?_⟩
  iterate 4 (intro h; cases h)
  iterate 6 (intro k h; cases h)
  intro k hk
  rcases mem_own.1 hk with e | e | e | e | e
  · simp [e]
  all_goals cases e
def beginF (s : Fs) (how next : Int) : Fs :=
  { s with service := if how = 1 then 2 else 1, how := how, set := next, held := false, susp := false, asked := false, given := false, due := how == 3 || how == 4, tries := 1, clock := s.timeout, base := if how = 1 then next else s.base }
set_option maxHeartbeats 4000000 in
set_option maxRecDepth 100000 in
theorem Begin_ok (how next : Int) (s : Fs) (g : Nat) (S : List Nat) (w : World) (h1 : 1 ≤ how) (h2 : how ≤ 4) (h3 : 0 ≤ next) (h4 : next ≤ 255) (hs : s.service = 0) (hw : s.window ≠ 0) (h : FopIn w g S s) :
    Calls Tryz.prog 21 #[.pointer (some ⟨g, 0, none⟩), .int .i64 how, .int .i64 next] w fun e w' => e = .returned (.int .i64 0) ∧ FopTo w w' g S (beginF s how next) := by
  have HN := Lib.hid (foNone_in s g S w false (by simpa using hw) h)
  have HT := Lib.hid (Pt.refl h)
  have k0 : (s.service != 0) = false := by simp [hs]
  have k1 : ¬ next < 0 := by omega
  have k2 : ¬ 255 < next := by omega
  clear h hs hw
  have hc : how = 1 ∨ how = 2 ∨ how = 3 ∨ how = 4 := by omega
  clear h1 h2
  rcases hc with rfl | rfl | rfl | rfl
  · obtain ⟨ve, vw, vs, vb, hF, hS⟩ := HT.out.in_
    have HF := Lib.hid hF; have HS := Lib.hid hS; have HB := Lib.hid hF.blk; clear hF hS
    have c6 := HB.out.cell 6
    have c7 := HB.out.cell 7
    have c8 := HB.out.cell 8
    have c16 := HB.out.cell 16
    have c17 := HB.out.cell 17
    have c18 := HB.out.cell 18
    have c19 := HB.out.cell 19
    have c20 := HB.out.cell 20
    have f6 := HB.out.free 6
    have f7 := HB.out.free 7
    have f8 := HB.out.free 8
    have f16 := HB.out.free 16
    have f17 := HB.out.free 17
    have f18 := HB.out.free 18
    have f19 := HB.out.free 19
    have f20 := HB.out.free 20
    simp only [Fs.cells, List.getElem?_cons_zero, List.getElem?_cons_succ] at c6 c7 c8 c16 c17 c18 c19 c20
    go_enter Tryz.func21, Tryz.ntmps21
    go_wp2_with fail
    refine HN.out.mono ?_
    rintro e w1 ⟨rfl, rfl⟩
    go_wp2_with fail
    replace HT := Lib.hid (HT.out.upd (s' := { s with service := 1, how := 1, set := next, held := false, susp := false, asked := false, given := false, due := false }) HF.out HS.out ((((((((HB.out.set 6 _).set 7 _).set 8 _).set 18 _).set 19 _).set 20 _).set 17 _).set 16 _) (((((((((Keep.refl [g] _).setCell (.inl (by simp)) _).setCell (.inl (by simp)) _).setCell (.inl (by simp)) _).setCell (.inl (by simp)) _).setCell (.inl (by simp)) _).setCell (.inl (by simp)) _).setCell (.inl (by simp)) _).setCell (.inl (by simp)) _) rfl rfl rfl rfl)
    clear HF HS HB c6 c7 c8 c16 c17 c18 c19 c20 f6 f7 f8 f16 f17 f18 f19 f20
    refine (again_in { s with service := 1, how := 1, set := next, held := false, susp := false, asked := false, given := false, due := false } g S _ HT.out.in_).mono ?_
    rintro e w2 ⟨rfl, hT⟩
    obtain ⟨S1, hT⟩ := HT.out.trans hT
    replace HT := Lib.hid hT; clear hT
    obtain ⟨ve, vw, vs, vb, hF, hS⟩ := HT.out.in_
    have HF := Lib.hid hF; have HS := Lib.hid hS; have HB := Lib.hid hF.blk; clear hF hS
    have c6 := HB.out.cell 6
    have c9 := HB.out.cell 9
    have f6 := HB.out.free 6
    have f9 := HB.out.free 9
    simp only [Fs.cells, List.getElem?_cons_zero, List.getElem?_cons_succ] at c6 c9
    go_wp2_with fail
    go_ret
    exact ⟨rfl, (HT.out.upd (s' := beginF s 1 next) HF.out HS.out ((HB.out.set 6 _).set 9 _) (((Keep.refl [g] _).setCell (.inl (by simp)) _).setCell (.inl (by simp)) _) rfl rfl rfl rfl).to⟩
  · obtain ⟨ve, vw, vs, vb, hF, hS⟩ := HT.out.in_
    have HF := Lib.hid hF; have HS := Lib.hid hS; have HB := Lib.hid hF.blk; clear hF hS
    have c6 := HB.out.cell 6
    have c7 := HB.out.cell 7
    have c8 := HB.out.cell 8
    have c16 := HB.out.cell 16
    have c17 := HB.out.cell 17
    have c18 := HB.out.cell 18
    have c19 := HB.out.cell 19
    have c20 := HB.out.cell 20
    have f6 := HB.out.free 6
    have f7 := HB.out.free 7
    have f8 := HB.out.free 8
    have f16 := HB.out.free 16
    have f17 := HB.out.free 17
    have f18 := HB.out.free 18
    have f19 := HB.out.free 19
    have f20 := HB.out.free 20
    simp only [Fs.cells, List.getElem?_cons_zero, List.getElem?_cons_succ] at c6 c7 c8 c16 c17 c18 c19 c20
    go_enter Tryz.func21, Tryz.ntmps21
    go_wp2_with fail
    refine HN.out.mono ?_
    rintro e w1 ⟨rfl, rfl⟩
    go_wp2_with fail
    replace HT := Lib.hid (HT.out.upd (s' := { s with service := 1, how := 2, set := next, held := false, susp := false, asked := false, given := false, due := false }) HF.out HS.out ((((((((HB.out.set 6 _).set 7 _).set 8 _).set 18 _).set 19 _).set 20 _).set 17 _).set 16 _) (((((((((Keep.refl [g] _).setCell (.inl (by simp)) _).setCell (.inl (by simp)) _).setCell (.inl (by simp)) _).setCell (.inl (by simp)) _).setCell (.inl (by simp)) _).setCell (.inl (by simp)) _).setCell (.inl (by simp)) _).setCell (.inl (by simp)) _) rfl rfl rfl rfl)
    clear HF HS HB c6 c7 c8 c16 c17 c18 c19 c20 f6 f7 f8 f16 f17 f18 f19 f20
    refine (again_in { s with service := 1, how := 2, set := next, held := false, susp := false, asked := false, given := false, due := false } g S _ HT.out.in_).mono ?_
    rintro e w2 ⟨rfl, hT⟩
    obtain ⟨S1, hT⟩ := HT.out.trans hT
    replace HT := Lib.hid hT; clear hT
    go_wp2_with fail
    go_ret
    exact ⟨rfl, HT.out.to⟩
  · obtain ⟨ve, vw, vs, vb, hF, hS⟩ := HT.out.in_
    have HF := Lib.hid hF; have HS := Lib.hid hS; have HB := Lib.hid hF.blk; clear hF hS
    have c6 := HB.out.cell 6
    have c7 := HB.out.cell 7
    have c8 := HB.out.cell 8
    have c16 := HB.out.cell 16
    have c17 := HB.out.cell 17
    have c18 := HB.out.cell 18
    have c19 := HB.out.cell 19
    have c20 := HB.out.cell 20
    have f6 := HB.out.free 6
    have f7 := HB.out.free 7
    have f8 := HB.out.free 8
    have f16 := HB.out.free 16
    have f17 := HB.out.free 17
    have f18 := HB.out.free 18
    have f19 := HB.out.free 19
    have f20 := HB.out.free 20
    simp only [Fs.cells, List.getElem?_cons_zero, List.getElem?_cons_succ] at c6 c7 c8 c16 c17 c18 c19 c20
    go_enter Tryz.func21, Tryz.ntmps21
    go_wp2_with fail
    refine HN.out.mono ?_
    rintro e w1 ⟨rfl, rfl⟩
    go_wp2_with fail
    replace HT := Lib.hid (HT.out.upd (s' := { s with service := 1, how := 3, set := next, held := false, susp := false, asked := false, given := false, due := true }) HF.out HS.out ((((((((HB.out.set 6 _).set 7 _).set 8 _).set 18 _).set 19 _).set 20 _).set 17 _).set 16 _) (((((((((Keep.refl [g] _).setCell (.inl (by simp)) _).setCell (.inl (by simp)) _).setCell (.inl (by simp)) _).setCell (.inl (by simp)) _).setCell (.inl (by simp)) _).setCell (.inl (by simp)) _).setCell (.inl (by simp)) _).setCell (.inl (by simp)) _) rfl rfl rfl rfl)
    clear HF HS HB c6 c7 c8 c16 c17 c18 c19 c20 f6 f7 f8 f16 f17 f18 f19 f20
    refine (again_in { s with service := 1, how := 3, set := next, held := false, susp := false, asked := false, given := false, due := true } g S _ HT.out.in_).mono ?_
    rintro e w2 ⟨rfl, hT⟩
    obtain ⟨S1, hT⟩ := HT.out.trans hT
    replace HT := Lib.hid hT; clear hT
    go_wp2_with fail
    go_ret
    exact ⟨rfl, HT.out.to⟩
  · obtain ⟨ve, vw, vs, vb, hF, hS⟩ := HT.out.in_
    have HF := Lib.hid hF; have HS := Lib.hid hS; have HB := Lib.hid hF.blk; clear hF hS
    have c6 := HB.out.cell 6
    have c7 := HB.out.cell 7
    have c8 := HB.out.cell 8
    have c16 := HB.out.cell 16
    have c17 := HB.out.cell 17
    have c18 := HB.out.cell 18
    have c19 := HB.out.cell 19
    have c20 := HB.out.cell 20
    have f6 := HB.out.free 6
    have f7 := HB.out.free 7
    have f8 := HB.out.free 8
    have f16 := HB.out.free 16
    have f17 := HB.out.free 17
    have f18 := HB.out.free 18
    have f19 := HB.out.free 19
    have f20 := HB.out.free 20
    simp only [Fs.cells, List.getElem?_cons_zero, List.getElem?_cons_succ] at c6 c7 c8 c16 c17 c18 c19 c20
    go_enter Tryz.func21, Tryz.ntmps21
    go_wp2_with fail
    refine HN.out.mono ?_
    rintro e w1 ⟨rfl, rfl⟩
    go_wp2_with fail
    replace HT := Lib.hid (HT.out.upd (s' := { s with service := 1, how := 4, set := next, held := false, susp := false, asked := false, given := false, due := true }) HF.out HS.out ((((((((HB.out.set 6 _).set 7 _).set 8 _).set 18 _).set 19 _).set 20 _).set 17 _).set 16 _) (((((((((Keep.refl [g] _).setCell (.inl (by simp)) _).setCell (.inl (by simp)) _).setCell (.inl (by simp)) _).setCell (.inl (by simp)) _).setCell (.inl (by simp)) _).setCell (.inl (by simp)) _).setCell (.inl (by simp)) _).setCell (.inl (by simp)) _) rfl rfl rfl rfl)
    clear HF HS HB c6 c7 c8 c16 c17 c18 c19 c20 f6 f7 f8 f16 f17 f18 f19 f20
    refine (again_in { s with service := 1, how := 4, set := next, held := false, susp := false, asked := false, given := false, due := true } g S _ HT.out.in_).mono ?_
    rintro e w2 ⟨rfl, hT⟩
    obtain ⟨S1, hT⟩ := HT.out.trans hT
    replace HT := Lib.hid hT; clear hT
    go_wp2_with fail
    go_ret
    exact ⟨rfl, HT.out.to⟩
end
section
theorem Pt.drewN {w W : World} {g : Nat} {S S1 : List Nat} {s : Fs} (h : Pt w W g S S1 s) (n : Nat) : Pt w (W.drewN n) g S S1 s := ⟨h.in_.keep ((Keep.refl [] _).drewN n) (fun _ _ _ => by simp), h.keep.drewN n, h.new⟩
section
variable (s : Fs) (g : Nat) (S : List Nat) (w : World)
def sendF (s : Fs) (d : ByteArray) : Fs := { s with last := s.last + 1, waiting := s.waiting ++ [⟨s.last + 1, d, false⟩] }
set_option maxHeartbeats 2000000 in
set_option maxRecDepth 100000 in
theorem Send_ok (d : ByteArray) (hd : unfitF d = false) (hs : s.service = 2) (hl : s.waiting.length < 256) (ha : 0 ≤ s.last) (hb : s.last ≤ 1000000000) (hw : s.window ≠ 0) (h : FopIn w g S s) :
    Calls Tryz.prog 46 #[.pointer (some ⟨g, 0, none⟩), .string d] w fun e w' => e = .returned (.tuple #[.int .i64 (s.last + 1), .int .i64 0]) ∧ FopTo w w' g S (sendF s d) := by
  have HN := Lib.hid (foNone_in s g S w false (by simpa using hw) h)
  have HU := Lib.hid (unfit_any d w); rw [hd] at HU
  have HW := Lib.hid (lenW_in s g S w h)
  have HT := Lib.hid (Pt.refl h)
  have k0 : (s.service != 2) = false := by simpa using hs
  have k1 : ¬ (256 : Int) ≤ (s.waiting.length : Int) := by omega
  have hwl : s.waiting.length ≤ 1000000 := by omega
  clear h hs hw hd
  obtain ⟨ve, vw, vs, vb, hF, hS⟩ := HT.out.in_
  have HF := Lib.hid hF; have HS := Lib.hid hS; have HB := Lib.hid hF.blk; clear hF hS
  have c6 := HB.out.cell 6
  have c12 := HB.out.cell 12
  have f12 := HB.out.free 12
  simp only [Fs.cells, List.getElem?_cons_zero, List.getElem?_cons_succ] at c6 c12
  go_enter Tryz.func46, Tryz.ntmps46
  go_wp2_with fail
  refine (HN.out).mono ?_
  rintro e _ ⟨rfl, rfl⟩
  go_wp2_with fail
  refine (HU.out).mono ?_
  rintro e _ ⟨rfl, rfl⟩
  go_wp2_with fail
  refine (HW.out).mono ?_
  rintro e _ ⟨rfl, rfl⟩
  go_upto_region 10 with fail
  replace HT := Lib.hid (HT.out.upd (s' := { s with last := s.last + 1 }) HF.out HS.out (HB.out.set 12 _) ((Keep.refl [g] _).setCell (.inl (by simp)) _) rfl rfl rfl rfl)
  clear HF HS HB c6 c12 f12
  refine gen_world (fun W => Pt w W g S S { s with last := s.last + 1 }) HT.out ?_
  clear HT
  rintro w1 hT
  have HT := Lib.hid hT; clear hT
  obtain ⟨ve, vw, vs, vb, hF, hS⟩ := HT.out.in_
  have HF := Lib.hid hF; have HS := Lib.hid hS; have HB := Lib.hid hF.blk; clear hF hS
  have c12 := HB.out.cell 12
  simp only [Fs.cells, List.getElem?_cons_zero, List.getElem?_cons_succ] at c12
  have x12 := (HB.out.drew.cell 12); simp only [Fs.cells, List.getElem?_cons_zero, List.getElem?_cons_succ] at x12
  go_region_with (first | (go_at_call 58; refine (pushW_in ⟨s.last + 1, d, false⟩ { s with last := s.last + 1 } g S _ hwl HT.out.drew.in_).mono ?_; rintro e w2 ⟨rfl, hT⟩) | fail)
  obtain ⟨S1, hT⟩ := HT.out.drew.trans hT
  replace HT := Lib.hid hT; clear hT
  clear HF HS HB c12 x12
  obtain ⟨ve, vw, vs, vb, hF, hS⟩ := HT.out.in_
  have HF := Lib.hid hF; have HS := Lib.hid hS; have HB := Lib.hid hF.blk; clear hF hS
  have c12 := HB.out.cell 12
  simp only [Fs.cells, List.getElem?_cons_zero, List.getElem?_cons_succ] at c12
  go_wp2_with fail
  go_ret2
  exact ⟨rfl, HT.out.to⟩
set_option maxHeartbeats 2000000 in
set_option maxRecDepth 100000 in
theorem Tick_idle (by_ : Int) (h0 : 0 ≤ by_) (h1 : by_ ≤ 1073741824) (hp : s.susp = false) (hs : s.service = 0 ∨ s.service = 2 ∧ s.sent = []) (hw : s.window ≠ 0) (h : FopIn w g S s) :
    Calls Tryz.prog 11 #[.pointer (some ⟨g, 0, none⟩), .int .i64 by_] w fun e w' => e = .returned (.tuple #[.slice none 0 0, .int .i64 0]) ∧ w = w' := by
  have HN := Lib.hid (foNone_in s g S w false (by simpa using hw) h)
  have HW := Lib.hid (lenS_in s g S w h)
  have HT := Lib.hid (Pt.refl h)
  have k0 : ¬ by_ < 0 := by omega
  have k1 : ¬ 1073741824 < by_ := by omega
  clear hw
  rcases hs with hs | ⟨hs, hl⟩
  · have k2 : (s.service == 0) = true := by simpa using hs
    clear h hs
    obtain ⟨ve, vw, vs, vb, hF, hS⟩ := HT.out.in_
    have HF := Lib.hid hF; have HS := Lib.hid hS; have HB := Lib.hid hF.blk; clear hF hS
    have c6 := HB.out.cell 6
    have c19 := HB.out.cell 19
    simp only [Fs.cells, List.getElem?_cons_zero, List.getElem?_cons_succ] at c6 c19
    rw [hp] at c19
    clear hp
    go_enter Tryz.func11, Tryz.ntmps11
    go_wp2_with fail
    refine (HN.out).mono ?_
    rintro e _ ⟨rfl, rfl⟩
    go_wp2_with fail
    go_ret2
    exact ⟨rfl, rfl⟩
  · have k2 : (s.service == 0) = false := by simp [hs]
    have k3 : (s.service == 2) = true := by simpa using hs
    rw [hl] at HW
    clear h hs hl
    obtain ⟨ve, vw, vs, vb, hF, hS⟩ := HT.out.in_
    have HF := Lib.hid hF; have HS := Lib.hid hS; have HB := Lib.hid hF.blk; clear hF hS
    have c6 := HB.out.cell 6
    have c19 := HB.out.cell 19
    simp only [Fs.cells, List.getElem?_cons_zero, List.getElem?_cons_succ] at c6 c19
    rw [hp] at c19
    clear hp
    go_enter Tryz.func11, Tryz.ntmps11
    go_wp2_with fail
    refine (HN.out).mono ?_
    rintro e _ ⟨rfl, rfl⟩
    go_wp2_with fail
    refine (HW.out).mono ?_
    rintro e _ ⟨rfl, rfl⟩
    go_wp2_with fail
    go_ret2
    exact ⟨rfl, rfl⟩
set_option maxHeartbeats 2000000 in
set_option maxRecDepth 100000 in
theorem Tick_wait (by_ : Int) (h0 : 0 ≤ by_) (h1 : by_ ≤ 1073741824) (hp : s.susp = false) (hs : s.service = 1 ∨ s.service = 2 ∧ 0 < s.sent.length) (hc0 : -4000000000000000000 ≤ s.clock) (hc1 : s.clock ≤ 4000000000000000000) (hc : 0 < s.clock - by_) (hw : s.window ≠ 0) (h : FopIn w g S s) :
    Calls Tryz.prog 11 #[.pointer (some ⟨g, 0, none⟩), .int .i64 by_] w fun e w' => e = .returned (.tuple #[.slice none 0 0, .int .i64 0]) ∧ FopTo w w' g S { s with clock := s.clock - by_ } := by
  have HN := Lib.hid (foNone_in s g S w false (by simpa using hw) h)
  have HW := Lib.hid (lenS_in s g S w h)
  have HT := Lib.hid (Pt.refl h)
  have k0 : ¬ by_ < 0 := by omega
  have k1 : ¬ 1073741824 < by_ := by omega
  have HQ := Lib.hid (show s.service = 1 ∨ s.service = 2 ∧ 0 < s.sent.length from hs)
  clear hw hs
  rcases HQ.out with hs | ⟨hs, hl⟩
  · have k2 : (s.service == 0) = false := by simp [hs]
    have k3 : (s.service == 2) = false := by simp [hs]
    have k9 : (s.service == 1) = true := by simp [hs]
    clear h hs
    obtain ⟨ve, vw, vs, vb, hF, hS⟩ := HT.out.in_
    have HF := Lib.hid hF; have HS := Lib.hid hS; have HB := Lib.hid hF.blk; clear hF hS
    have c6 := HB.out.cell 6
    have c11 := HB.out.cell 11
    have c19 := HB.out.cell 19
    have f11 := HB.out.free 11
    simp only [Fs.cells, List.getElem?_cons_zero, List.getElem?_cons_succ] at c6 c11 c19
    rw [hp] at c19
    clear hp
    go_enter Tryz.func11, Tryz.ntmps11
    go_wp2_with fail
    refine (HN.out).mono ?_
    rintro e _ ⟨rfl, rfl⟩
    go_wp2_with fail
    go_ret2
    exact ⟨rfl, (HT.out.upd (s' := { s with clock := s.clock - by_ }) HF.out HS.out (HB.out.set 11 _) ((Keep.refl [g] _).setCell (.inl (by simp)) _) rfl rfl rfl rfl).to⟩
  · have k2 : (s.service == 0) = false := by simp [hs]
    have k3 : (s.service == 2) = true := by simp [hs]
    have k9 : (s.service == 1) = false := by simp [hs]
    have k4 : ((s.sent.length : Int) == 0) = false := by simp only [beq_eq_false_iff_ne, ne_eq]; omega
    clear h hs hl
    obtain ⟨ve, vw, vs, vb, hF, hS⟩ := HT.out.in_
    have HF := Lib.hid hF; have HS := Lib.hid hS; have HB := Lib.hid hF.blk; clear hF hS
    have c6 := HB.out.cell 6
    have c11 := HB.out.cell 11
    have c19 := HB.out.cell 19
    have f11 := HB.out.free 11
    simp only [Fs.cells, List.getElem?_cons_zero, List.getElem?_cons_succ] at c6 c11 c19
    rw [hp] at c19
    clear hp
    go_enter Tryz.func11, Tryz.ntmps11
    go_wp2_with fail
    refine (HN.out).mono ?_
    rintro e _ ⟨rfl, rfl⟩
    go_wp2_with fail
    refine (HW.out).mono ?_
    rintro e _ ⟨rfl, rfl⟩
    go_wp2_with fail
    go_ret2
    exact ⟨rfl, (HT.out.upd (s' := { s with clock := s.clock - by_ }) HF.out HS.out (HB.out.set 11 _) ((Keep.refl [g] _).setCell (.inl (by simp)) _) rfl rfl rfl rfl).to⟩
set_option maxHeartbeats 2000000 in
set_option maxRecDepth 100000 in
theorem Tick_alert (by_ : Int) (h0 : 0 ≤ by_) (h1 : by_ ≤ 1073741824) (hp : s.susp = false) (hs : s.service = 1 ∨ s.service = 2 ∧ 0 < s.sent.length) (hc0 : -4000000000000000000 ≤ s.clock) (hc1 : s.clock ≤ 4000000000000000000) (hc : s.clock - by_ ≤ 0) (ht : s.limit ≤ s.tries) (hn : s.events.length ≤ 1000000) (hw : s.window ≠ 0) (h : FopIn w g S s) :
    Calls Tryz.prog 11 #[.pointer (some ⟨g, 0, none⟩), .int .i64 by_] w fun e w' => ∃ v S', e = .returned (.tuple #[v, .int .i64 0]) ∧ Pt w w' g S S' { alertF { s with clock := s.clock - by_ } 1 with events := [] } ∧ Given w w' S S' (s.events ++ [⟨3, 0, 1⟩]) v := by
  have HN := Lib.hid (foNone_in s g S w false (by simpa using hw) h)
  have HW := Lib.hid (lenS_in s g S w h)
  have HT := Lib.hid (Pt.refl h)
  have k0 : ¬ by_ < 0 := by omega
  have k1 : ¬ 1073741824 < by_ := by omega
  have HQ := Lib.hid (show s.service = 1 ∨ s.service = 2 ∧ 0 < s.sent.length from hs)
  clear hw hs
  have k5 : ¬ 0 < s.clock - by_ := by omega
  rcases HQ.out with hs | ⟨hs, hl⟩
  · have k2 : (s.service == 0) = false := by simp [hs]
    have k3 : (s.service == 2) = false := by simp [hs]
    have k9 : (s.service == 1) = true := by simp [hs]
    clear h hs
    obtain ⟨ve, vw, vs, vb, hF, hS⟩ := HT.out.in_
    have HF := Lib.hid hF; have HS := Lib.hid hS; have HB := Lib.hid hF.blk; clear hF hS
    have c4 := HB.out.cell 4
    have c6 := HB.out.cell 6
    have c10 := HB.out.cell 10
    have c11 := HB.out.cell 11
    have c19 := HB.out.cell 19
    have f11 := HB.out.free 11
    simp only [Fs.cells, List.getElem?_cons_zero, List.getElem?_cons_succ] at c4 c6 c10 c11 c19
    rw [hp] at c19
    clear hp
    go_enter Tryz.func11, Tryz.ntmps11
    go_wp2_with fail
    refine (HN.out).mono ?_
    rintro e _ ⟨rfl, rfl⟩
    go_upto_region 10 with fail
    replace HT := Lib.hid (HT.out.upd (s' := { s with clock := s.clock - by_ }) HF.out HS.out (HB.out.set 11 _) ((Keep.refl [g] _).setCell (.inl (by simp)) _) rfl rfl rfl rfl)
    clear HF HS HB c4 c6 c10 c11 c19 f11
    refine gen_world (fun W => Pt w W g S S { s with clock := s.clock - by_ }) HT.out ?_
    clear HT
    rintro w1 hT
    have HT := Lib.hid hT; clear hT
    obtain ⟨ve, vw, vs, vb, hF, hS⟩ := HT.out.in_
    have HF := Lib.hid hF; have HS := Lib.hid hS; have HB := Lib.hid hF.blk; clear hF hS
    have c4 := HB.out.cell 4
    have c10 := HB.out.cell 10
    simp only [Fs.cells, List.getElem?_cons_zero, List.getElem?_cons_succ] at c4 c10
    go_quiet (fail)
    refine post_any (fun W => Pt w W g S S { s with clock := s.clock - by_ }) (HT.out.drewN _) ?_
    clear HF HS HB c4 c10
    clear HT
    rintro w2 hT
    have HT := Lib.hid hT; clear hT
    go_wp2_with fail
    refine (alert_in 1 { s with clock := s.clock - by_ } g S _ hn HT.out.in_).mono ?_
    rintro e w3 ⟨rfl, hT⟩
    obtain ⟨S1, hT⟩ := HT.out.trans hT
    replace HT := Lib.hid hT; clear hT
    go_wp2_with fail
    refine (reported_in _ g _ _ HT.out.in_).mono ?_
    rintro e w4 ⟨v, S2, rfl, hP, hG⟩
    have HP := Lib.hid hP; have HG := Lib.hid hG; clear hP hG
    go_wp2_with fail
    go_ret2
    refine ⟨_, S2, rfl, ⟨HP.out.in_, HT.out.keep.trans_new HP.out.keep HT.out.new, fun x hx => ?_⟩, HG.out.1, fun x hx => ⟨(HG.out.2 x hx).1, ?_⟩⟩
    · rcases HP.out.new x hx with e | e
      · exact HT.out.new x e
      · exact .inr (Nat.le_trans HT.out.keep.size e)
    · rcases (HG.out.2 x hx).2 with e | e
      · exact HT.out.new x e
      · exact .inr (Nat.le_trans HT.out.keep.size e)
  · have k2 : (s.service == 0) = false := by simp [hs]
    have k3 : (s.service == 2) = true := by simp [hs]
    have k9 : (s.service == 1) = false := by simp [hs]
    have k4 : ((s.sent.length : Int) == 0) = false := by simp only [beq_eq_false_iff_ne, ne_eq]; omega
    clear h hs hl
    obtain ⟨ve, vw, vs, vb, hF, hS⟩ := HT.out.in_
    have HF := Lib.hid hF; have HS := Lib.hid hS; have HB := Lib.hid hF.blk; clear hF hS
    have c4 := HB.out.cell 4
    have c6 := HB.out.cell 6
    have c10 := HB.out.cell 10
    have c11 := HB.out.cell 11
    have c19 := HB.out.cell 19
    have f11 := HB.out.free 11
    simp only [Fs.cells, List.getElem?_cons_zero, List.getElem?_cons_succ] at c4 c6 c10 c11 c19
    rw [hp] at c19
    clear hp
    go_enter Tryz.func11, Tryz.ntmps11
    go_wp2_with fail
    refine (HN.out).mono ?_
    rintro e _ ⟨rfl, rfl⟩
    go_wp2_with fail
    refine (HW.out).mono ?_
    rintro e _ ⟨rfl, rfl⟩
    go_upto_region 10 with fail
    replace HT := Lib.hid (HT.out.upd (s' := { s with clock := s.clock - by_ }) HF.out HS.out (HB.out.set 11 _) ((Keep.refl [g] _).setCell (.inl (by simp)) _) rfl rfl rfl rfl)
    clear HF HS HB c4 c6 c10 c11 c19 f11
    refine gen_world (fun W => Pt w W g S S { s with clock := s.clock - by_ }) HT.out ?_
    clear HT
    rintro w1 hT
    have HT := Lib.hid hT; clear hT
    obtain ⟨ve, vw, vs, vb, hF, hS⟩ := HT.out.in_
    have HF := Lib.hid hF; have HS := Lib.hid hS; have HB := Lib.hid hF.blk; clear hF hS
    have c4 := HB.out.cell 4
    have c10 := HB.out.cell 10
    simp only [Fs.cells, List.getElem?_cons_zero, List.getElem?_cons_succ] at c4 c10
    go_quiet (fail)
    refine post_any (fun W => Pt w W g S S { s with clock := s.clock - by_ }) (HT.out.drewN _) ?_
    clear HF HS HB c4 c10
    clear HT
    rintro w2 hT
    have HT := Lib.hid hT; clear hT
    go_wp2_with fail
    refine (alert_in 1 { s with clock := s.clock - by_ } g S _ hn HT.out.in_).mono ?_
    rintro e w3 ⟨rfl, hT⟩
    obtain ⟨S1, hT⟩ := HT.out.trans hT
    replace HT := Lib.hid hT; clear hT
    go_wp2_with fail
    refine (reported_in _ g _ _ HT.out.in_).mono ?_
    rintro e w4 ⟨v, S2, rfl, hP, hG⟩
    have HP := Lib.hid hP; have HG := Lib.hid hG; clear hP hG
    go_wp2_with fail
    go_ret2
    refine ⟨_, S2, rfl, ⟨HP.out.in_, HT.out.keep.trans_new HP.out.keep HT.out.new, fun x hx => ?_⟩, HG.out.1, fun x hx => ⟨(HG.out.2 x hx).1, ?_⟩⟩
    · rcases HP.out.new x hx with e | e
      · exact HT.out.new x e
      · exact .inr (Nat.le_trans HT.out.keep.size e)
    · rcases (HG.out.2 x hx).2 with e | e
      · exact HT.out.new x e
      · exact .inr (Nat.le_trans HT.out.keep.size e)
def againF (s : Fs) : Fs := markF { s with tries := s.tries + 1, clock := s.timeout, asked := false, due := s.service == 1 && s.how != 2 }
set_option maxHeartbeats 2000000 in
set_option maxRecDepth 100000 in
theorem Tick_again (by_ : Int) (h0 : 0 ≤ by_) (h1 : by_ ≤ 1073741824) (hp : s.susp = false) (hs : s.service = 1 ∨ s.service = 2 ∧ 0 < s.sent.length) (hc0 : -4000000000000000000 ≤ s.clock) (hc1 : s.clock ≤ 4000000000000000000) (hc : s.clock - by_ ≤ 0) (ht : s.tries < s.limit) (ht0 : 0 ≤ s.tries) (ht1 : s.tries ≤ 1000) (hn : s.sent.length ≤ 1000000) (hw : s.window ≠ 0) (h : FopIn w g S s) :
    Calls Tryz.prog 11 #[.pointer (some ⟨g, 0, none⟩), .int .i64 by_] w fun e w' => e = .returned (.tuple #[.slice none 0 0, .int .i64 0]) ∧ FopTo w w' g S (againF s) := by
  have HN := Lib.hid (foNone_in s g S w false (by simpa using hw) h)
  have HW := Lib.hid (lenS_in s g S w h)
  have HT := Lib.hid (Pt.refl h)
  have k0 : ¬ by_ < 0 := by omega
  have k1 : ¬ 1073741824 < by_ := by omega
  have HQ := Lib.hid (show s.service = 1 ∨ s.service = 2 ∧ 0 < s.sent.length from hs)
  clear hw hs
  have k5 : ¬ 0 < s.clock - by_ := by omega
  have k6 : ¬ s.limit ≤ s.tries := by omega
  rcases HQ.out with hs | ⟨hs, hl⟩
  · have k2 : (s.service == 0) = false := by simp [hs]
    have k3 : (s.service == 2) = false := by simp [hs]
    have k9 : (s.service == 1) = true := by simp [hs]
    clear h hs
    obtain ⟨ve, vw, vs, vb, hF, hS⟩ := HT.out.in_
    have HF := Lib.hid hF; have HS := Lib.hid hS; have HB := Lib.hid hF.blk; clear hF hS
    have c4 := HB.out.cell 4
    have c6 := HB.out.cell 6
    have c10 := HB.out.cell 10
    have c11 := HB.out.cell 11
    have c19 := HB.out.cell 19
    have f11 := HB.out.free 11
    simp only [Fs.cells, List.getElem?_cons_zero, List.getElem?_cons_succ] at c4 c6 c10 c11 c19
    rw [hp] at c19
    clear hp
    go_enter Tryz.func11, Tryz.ntmps11
    go_wp2_with fail
    refine (HN.out).mono ?_
    rintro e _ ⟨rfl, rfl⟩
    go_upto_region 10 with fail
    replace HT := Lib.hid (HT.out.upd (s' := { s with clock := s.clock - by_ }) HF.out HS.out (HB.out.set 11 _) ((Keep.refl [g] _).setCell (.inl (by simp)) _) rfl rfl rfl rfl)
    clear HF HS HB c4 c6 c10 c11 c19 f11
    refine gen_world (fun W => Pt w W g S S { s with clock := s.clock - by_ }) HT.out ?_
    clear HT
    rintro w1 hT
    have HT := Lib.hid hT; clear hT
    obtain ⟨ve, vw, vs, vb, hF, hS⟩ := HT.out.in_
    have HF := Lib.hid hF; have HS := Lib.hid hS; have HB := Lib.hid hF.blk; clear hF hS
    have c4 := HB.out.cell 4
    have c10 := HB.out.cell 10
    simp only [Fs.cells, List.getElem?_cons_zero, List.getElem?_cons_succ] at c4 c10
    go_quiet (fail)
    refine post_any (fun W => Pt w W g S S { s with clock := s.clock - by_ }) (HT.out.drewN _) ?_
    clear HF HS HB c4 c10
    clear HT
    rintro w2 hT
    have HT := Lib.hid hT; clear hT
    obtain ⟨ve, vw, vs, vb, hF, hS⟩ := HT.out.in_
    have HF := Lib.hid hF; have HS := Lib.hid hS; have HB := Lib.hid hF.blk; clear hF hS
    have c5 := HB.out.cell 5
    have c6 := HB.out.cell 6
    have c7 := HB.out.cell 7
    have c10 := HB.out.cell 10
    have c11 := HB.out.cell 11
    have c16 := HB.out.cell 16
    have c20 := HB.out.cell 20
    have f10 := HB.out.free 10
    have f11 := HB.out.free 11
    have f16 := HB.out.free 16
    have f20 := HB.out.free 20
    simp only [Fs.cells, List.getElem?_cons_zero, List.getElem?_cons_succ] at c5 c6 c7 c10 c11 c16 c20
    go_wp2_with fail
    replace HT := Lib.hid (HT.out.upd (s' := { s with tries := s.tries + 1, clock := s.timeout, asked := false, due := s.how != 2 }) HF.out HS.out ((((HB.out.set 10 _).set 11 _).set 20 _).set 16 _) (((((Keep.refl [g] _).setCell (.inl (by simp)) _).setCell (.inl (by simp)) _).setCell (.inl (by simp)) _).setCell (.inl (by simp)) _) rfl rfl rfl rfl)
    clear HF HS HB c5 c6 c7 c10 c11 c16 c20 f10 f11 f16 f20
    refine (mark_in { s with tries := s.tries + 1, clock := s.timeout, asked := false, due := s.how != 2 } g S _ hn HT.out.in_).mono ?_
    rintro e w3 ⟨rfl, hT⟩
    obtain ⟨S1, hT⟩ := HT.out.trans hT
    replace HT := Lib.hid hT; clear hT
    go_wp2_with fail
    go_ret2
    refine ⟨rfl, ?_⟩
    have hA : againF s = markF { s with tries := s.tries + 1, clock := s.timeout, asked := false, due := s.how != 2 } := by unfold againF; rw [k9]; simp
    rw [hA]
    exact HT.out.to
  · have k2 : (s.service == 0) = false := by simp [hs]
    have k3 : (s.service == 2) = true := by simp [hs]
    have k9 : (s.service == 1) = false := by simp [hs]
    have k4 : ((s.sent.length : Int) == 0) = false := by simp only [beq_eq_false_iff_ne, ne_eq]; omega
    clear h hs hl
    obtain ⟨ve, vw, vs, vb, hF, hS⟩ := HT.out.in_
    have HF := Lib.hid hF; have HS := Lib.hid hS; have HB := Lib.hid hF.blk; clear hF hS
    have c4 := HB.out.cell 4
    have c6 := HB.out.cell 6
    have c10 := HB.out.cell 10
    have c11 := HB.out.cell 11
    have c19 := HB.out.cell 19
    have f11 := HB.out.free 11
    simp only [Fs.cells, List.getElem?_cons_zero, List.getElem?_cons_succ] at c4 c6 c10 c11 c19
    rw [hp] at c19
    clear hp
    go_enter Tryz.func11, Tryz.ntmps11
    go_wp2_with fail
    refine (HN.out).mono ?_
    rintro e _ ⟨rfl, rfl⟩
    go_wp2_with fail
    refine (HW.out).mono ?_
    rintro e _ ⟨rfl, rfl⟩
    go_upto_region 10 with fail
    replace HT := Lib.hid (HT.out.upd (s' := { s with clock := s.clock - by_ }) HF.out HS.out (HB.out.set 11 _) ((Keep.refl [g] _).setCell (.inl (by simp)) _) rfl rfl rfl rfl)
    clear HF HS HB c4 c6 c10 c11 c19 f11
    refine gen_world (fun W => Pt w W g S S { s with clock := s.clock - by_ }) HT.out ?_
    clear HT
    rintro w1 hT
    have HT := Lib.hid hT; clear hT
    obtain ⟨ve, vw, vs, vb, hF, hS⟩ := HT.out.in_
    have HF := Lib.hid hF; have HS := Lib.hid hS; have HB := Lib.hid hF.blk; clear hF hS
    have c4 := HB.out.cell 4
    have c10 := HB.out.cell 10
    simp only [Fs.cells, List.getElem?_cons_zero, List.getElem?_cons_succ] at c4 c10
    go_quiet (fail)
    refine post_any (fun W => Pt w W g S S { s with clock := s.clock - by_ }) (HT.out.drewN _) ?_
    clear HF HS HB c4 c10
    clear HT
    rintro w2 hT
    have HT := Lib.hid hT; clear hT
    obtain ⟨ve, vw, vs, vb, hF, hS⟩ := HT.out.in_
    have HF := Lib.hid hF; have HS := Lib.hid hS; have HB := Lib.hid hF.blk; clear hF hS
    have c5 := HB.out.cell 5
    have c6 := HB.out.cell 6
    have c7 := HB.out.cell 7
    have c10 := HB.out.cell 10
    have c11 := HB.out.cell 11
    have c16 := HB.out.cell 16
    have c20 := HB.out.cell 20
    have f10 := HB.out.free 10
    have f11 := HB.out.free 11
    have f16 := HB.out.free 16
    have f20 := HB.out.free 20
    simp only [Fs.cells, List.getElem?_cons_zero, List.getElem?_cons_succ] at c5 c6 c7 c10 c11 c16 c20
    go_wp2_with fail
    replace HT := Lib.hid (HT.out.upd (s' := { s with tries := s.tries + 1, clock := s.timeout, asked := false, due := false }) HF.out HS.out ((((HB.out.set 10 _).set 11 _).set 20 _).set 16 _) (((((Keep.refl [g] _).setCell (.inl (by simp)) _).setCell (.inl (by simp)) _).setCell (.inl (by simp)) _).setCell (.inl (by simp)) _) rfl rfl rfl rfl)
    clear HF HS HB c5 c6 c7 c10 c11 c16 c20 f10 f11 f16 f20
    refine (mark_in { s with tries := s.tries + 1, clock := s.timeout, asked := false, due := false } g S _ hn HT.out.in_).mono ?_
    rintro e w3 ⟨rfl, hT⟩
    obtain ⟨S1, hT⟩ := HT.out.trans hT
    replace HT := Lib.hid hT; clear hT
    go_wp2_with fail
    go_ret2
    refine ⟨rfl, ?_⟩
    have hA : againF s = markF { s with tries := s.tries + 1, clock := s.timeout, asked := false, due := false } := by unfold againF; rw [k9]; simp
    rw [hA]
    exact HT.out.to
end
end
end
section
open Go.ChangeShapes Go.WideShapes Go.ChangeAt Go.RowKit
/-- A call that made memory and left the old memory alone meets the row's 'post', whatever marks its new blocks bear. -/
theorem post_below {H : Type} {enc : TypeId × Value → H} {P : Program} {f : Func} {s : ChangeSpec} {apart fresh handsOn again : Bool} {W W' : World} {args : Array Value} {v : Value} {ds gs : List (DataW H)} {pa pv : List MemPlace}
    (hW : DataW.Whole enc P f.params.toList s.vars apart W args.toList ds gs (pa ++ pv))
    (hr : ∀ (b : Nat) (sp : Nat → Bool) (hd : Bool), DataW.TrodAll enc P W' b sp hd f.resultTypes.toList (v.resultList f.resultTypes.size) (s.fn H (ds ++ gs)).results [])
    (ha : ∀ sp : Nat → Bool, (∀ p ∈ pa ++ pv, sp p.block = true) → DataW.TrodAll enc P W' 0 sp true f.params.toList args.toList (s.fn H (ds ++ gs)).args pa)
    (hv : ∀ sp : Nat → Bool, (∀ p ∈ pa ++ pv, sp p.block = true) → DataW.TrodVars enc P W' sp s.vars (s.fn H (ds ++ gs)).vars pv)
    (hb : Below W.heap.size W W')
    (hok : ∀ (j : Nat) (t : TypeId) (r : Value), f.resultTypes[j]? = some t → (v.resultList f.resultTypes.size)[j]? = some r → Value.okWide P W' .any 0 t r) :
    s.post enc P f apart fresh handsOn again W args v W' := by
  have old : ∀ p ∈ pa ++ pv, (fun b => decide (b < W.heap.size)) p.block = true := fun p hp => decide_eq_true (hW.lt p hp)
  refine ⟨ds, gs, pa ++ pv, [], pa, pv, hW, hr _ _ _, ha _ old, hv _ old, World.keptBut_mono (fun p hp => ⟨hp, .inr (List.mem_append.1 hp)⟩) (hb.frame (· ∈ pa ++ pv)), fun _ => ?_⟩
  have hlt : ∀ p ∈ pa ++ pv, p.block < W.heap.size := fun p hp => hW.lt p hp
  obtain ⟨_, _, _, _, _, hz, hn⟩ := hW
  refine ⟨hok, _, _, ([] ++ pa) ++ pv, ⟨[] ++ pa, pv, trodAll_append (ha _ (fun _ _ => rfl)) (hr _ _ _), hv _ (fun _ _ => rfl), rfl, ?_, ?_⟩, ?_⟩
  · intro b off hp
    have hin : MemPlace.cell b off ∈ pa ++ pv := by simpa using hp
    rw [hb.frozen (hlt _ hin)]
    exact hz b off hin
  · intro h; simpa using hn h
  · intro p hp _; simpa using hp
end
section
open Go.ChangeShapes Go.WideShapes Go.ChangeAt Go.RowKit Go.Deep
section
variable {H : Type} {enc : TypeId × Value → H} {P : Program} {w : World} {base : Nat} {spare : Nat → Bool} {held : Bool}
/-- All arguments of a call that left the old memory alone read as before. -/
theorem stay_all (hl : laidOutB P = true) {W W' : World} (hb : Below W.heap.size W W') {sp : Nat → Bool} : ∀ {ts : List TypeId} {vs : List Value} {ds : List (DataW H)} {ps : List MemPlace},
    (∀ t ∈ ts, P.readableRec t = true ∧ t < P.types.size) → DataW.TrodAll enc P W 0 (fun _ => true) true ts vs ds ps → (∀ p ∈ ps, p.block < W.heap.size) → (∀ p ∈ ps, sp p.block = true) → DataW.TrodAll enc P W' 0 sp true ts vs ds ps
  | [], [], [], _, _, h, _, _ => h
  | t :: _, _ :: _, _ :: _, _, ht, ⟨p, q, h1, h2, e⟩, hlt, hs =>
    ⟨p, q, WideElems.Trod_stays hl (ht t (by simp)).1 (ht t (by simp)).2 h1 (fun x hx => hb.same (hlt x (by rw [e]; exact List.mem_append_left _ hx))) (fun x hx => hs x (by rw [e]; exact List.mem_append_left _ hx)),
      stay_all hl hb (fun t ht' => ht t (by simp [ht'])) h2 (fun x hx => hlt x (by rw [e]; exact List.mem_append_right _ hx)) (fun x hx => hs x (by rw [e]; exact List.mem_append_right _ hx)), e⟩
/-- A struct whose fields are one cell each. -/
theorem trod_cells {t : TypeId} {fs : Array Field} {fuel : Nat} {cs : List Value} {x : DataW H × List MemPlace} (hs : P.underlying t = some (.struct fs)) (hone : oneCellFields P fs = true) (hC : P.cellsOf t = fs.size)
    (h : DataW.trod enc P w base spare held fuel t cs = some x) : cs.length = fs.size ∧ ∀ (j : Nat) (f : Field), fs[j]? = some f → ∃ (v : Value) (y : DataW H × List MemPlace) (n : Nat), cs[j]? = some v ∧ DataW.trod enc P w base spare held n f.type [v] = some y := by
  obtain ⟨xs, n, _, _, hlen, hx, hf⟩ := DataW.trod_struct hs h
  refine ⟨by omega, fun j f hj => ?_⟩
  obtain ⟨ho, hk⟩ := hone_of hone j f hj
  have hjl : j < fs.size := (Array.getElem?_eq_some_iff.1 hj).1
  have h1 := hf j f hj
  rw [ho, hk] at h1
  have h2 : (cs.drop j).take 1 = [cs[j]'(by omega)] := by
    rw [List.drop_eq_getElem_cons (by omega)]; rfl
  rw [h2] at h1
  exact ⟨_, _, n, List.getElem?_eq_getElem (by omega), h1.trans (List.getElem?_eq_getElem (by omega))⟩
end
end
section
open Go.ChangeShapes Go.WideShapes Go.ChangeAt Go.RowKit Go.Deep
/-- A frame. -/
structure Tc where
  craft : Int
  chan : Int
  byp : Bool
  ctl : Bool
  seq : Int
  data : ByteArray
def Tc.cells (x : Tc) : List Value := [.int .i64 x.craft, .int .i64 x.chan, .bool x.byp, .bool x.ctl, .int .i64 x.seq, .string x.data]
def Tc.val (x : Tc) : Value := .agg #[.int .i64 x.craft, .int .i64 x.chan, .bool x.byp, .bool x.ctl, .int .i64 x.seq, .string x.data]
def I64 (n : Int) : Prop := -9223372036854775808 ≤ n ∧ n ≤ 9223372036854775807
section
variable {H : Type} {enc : TypeId × Value → H} {w : World} {base : Nat} {spare : Nat → Bool} {held : Bool}
end
/-- A control word. -/
structure Wd where
  chan : Int
  lockout : Bool
  wait : Bool
  retx : Bool
  bypd : Int
  next : Int
def Wd.cells (x : Wd) : List Value := [.int .i64 x.chan, .bool x.lockout, .bool x.wait, .bool x.retx, .int .i64 x.bypd, .int .i64 x.next]
def Wd.val (x : Wd) : Value := .agg #[.int .i64 x.chan, .bool x.lockout, .bool x.wait, .bool x.retx, .int .i64 x.bypd, .int .i64 x.next]
section
variable {H : Type} {enc : TypeId × Value → H} {w : World} {base : Nat} {spare : Nat → Bool} {held : Bool}
end
end
section
open Go.RowKit
def Tc.good (x : Tc) : Bool := decide (0 ≤ x.craft ∧ x.craft ≤ 255 ∧ 0 ≤ x.seq ∧ x.seq ≤ 255 ∧ 0 ≤ x.chan ∧ x.chan ≤ 7 ∧ 1 ≤ x.data.size ∧ x.data.size ≤ 200) && (x.byp || !x.ctl)
theorem Tc.good_iff (x : Tc) : x.good = true ↔ (0 ≤ x.craft ∧ x.craft ≤ 255 ∧ 0 ≤ x.seq ∧ x.seq ≤ 255 ∧ 0 ≤ x.chan ∧ x.chan ≤ 7 ∧ 1 ≤ x.data.size ∧ x.data.size ≤ 200) ∧ (x.byp || !x.ctl) = true := by
  simp [Tc.good]
theorem empty_of (d : ByteArray) (h : d.size = 0) : d.toList.isEmpty = true := by
  rw [toList_data]
  have : d.data.toList = [] := List.eq_nil_of_length_eq_zero (by simpa using h)
  rw [this]; rfl
theorem empty_eq (d : ByteArray) (h : d.size = 0) : d.toList = [] := by
  rw [toList_data]
  exact List.eq_nil_of_length_eq_zero (by simpa using h)
theorem not_empty_eq (d : ByteArray) (h : 1 ≤ d.size) : ¬ d.toList = [] := by
  rw [toList_data]
  intro e
  have : d.data.toList.length = d.size := by simp
  rw [e] at this; simp at this; omega
theorem not_empty_of (d : ByteArray) (h : 1 ≤ d.size) : d.toList.isEmpty = false := by
  rw [toList_data]
  cases hd : d.data.toList with
  | nil =>
    have : d.data.toList.length = d.size := by simp
    rw [hd] at this; simp at this; omega
  | cons a l => rfl
set_option maxHeartbeats 4000000 in
set_option maxRecDepth 100000 in
theorem valid_any (x : Tc) (w : World) : Calls Tryz.prog 59 #[x.val] w fun e w' => e = .returned (.bool x.good) ∧ Below w.heap.size w w' := by
  obtain ⟨c, ch, b, k, s, d⟩ := x
  simp only [Tc.val]
  by_cases h0 : 0 ≤ c
  case neg =>
    have hg : Tc.good ⟨c, ch, b, k, s, d⟩ = false := by
      rw [Bool.eq_false_iff, Ne, Tc.good_iff]; intro h; exact h0 (by simp only at h; omega)
    have HG := Lib.hid hg; clear hg
    go_enter Tryz.func59, Tryz.ntmps59
    go_wp2_with fail
    go_ret
    exact ⟨by rw [HG.out]; rfl, (Below.refl _ _).alloc (Nat.le_refl _) _⟩
  by_cases h1 : c ≤ 255
  case neg =>
    have hg : Tc.good ⟨c, ch, b, k, s, d⟩ = false := by
      rw [Bool.eq_false_iff, Ne, Tc.good_iff]; intro h; exact h1 (by simp only at h; omega)
    have HG := Lib.hid hg; clear hg
    go_enter Tryz.func59, Tryz.ntmps59
    go_wp2_with fail
    go_ret
    exact ⟨by rw [HG.out]; rfl, (Below.refl _ _).alloc (Nat.le_refl _) _⟩
  by_cases h2 : 0 ≤ s
  case neg =>
    have hg : Tc.good ⟨c, ch, b, k, s, d⟩ = false := by
      rw [Bool.eq_false_iff, Ne, Tc.good_iff]; intro h; exact h2 (by simp only at h; omega)
    have HG := Lib.hid hg; clear hg
    go_enter Tryz.func59, Tryz.ntmps59
    go_wp2_with fail
    go_ret
    exact ⟨by rw [HG.out]; rfl, (Below.refl _ _).alloc (Nat.le_refl _) _⟩
  by_cases h3 : s ≤ 255
  case neg =>
    have hg : Tc.good ⟨c, ch, b, k, s, d⟩ = false := by
      rw [Bool.eq_false_iff, Ne, Tc.good_iff]; intro h; exact h3 (by simp only at h; omega)
    have HG := Lib.hid hg; clear hg
    go_enter Tryz.func59, Tryz.ntmps59
    go_wp2_with fail
    go_ret
    exact ⟨by rw [HG.out]; rfl, (Below.refl _ _).alloc (Nat.le_refl _) _⟩
  by_cases h4 : 0 ≤ ch
  case neg =>
    have hg : Tc.good ⟨c, ch, b, k, s, d⟩ = false := by
      rw [Bool.eq_false_iff, Ne, Tc.good_iff]; intro h; exact h4 (by simp only at h; omega)
    have HG := Lib.hid hg; clear hg
    go_enter Tryz.func59, Tryz.ntmps59
    go_wp2_with fail
    go_ret
    exact ⟨by rw [HG.out]; rfl, (Below.refl _ _).alloc (Nat.le_refl _) _⟩
  by_cases h5 : ch ≤ 7
  case neg =>
    have hg : Tc.good ⟨c, ch, b, k, s, d⟩ = false := by
      rw [Bool.eq_false_iff, Ne, Tc.good_iff]; intro h; exact h5 (by simp only at h; omega)
    have HG := Lib.hid hg; clear hg
    have hb8 : ¬ ch < 8 := by omega
    go_enter Tryz.func59, Tryz.ntmps59
    go_wp2_with fail
    go_ret
    exact ⟨by rw [HG.out]; rfl, (Below.refl _ _).alloc (Nat.le_refl _) _⟩
  have hb8 : ch < 8 := by omega
  by_cases h6 : 1 ≤ d.size
  case neg =>
    have hg : Tc.good ⟨c, ch, b, k, s, d⟩ = false := by
      rw [Bool.eq_false_iff, Ne, Tc.good_iff]; intro h; exact h6 (by simp only at h; omega)
    have HG := Lib.hid hg; clear hg
    have he := empty_of d (by omega)
    have he2 := empty_eq d (by omega)
    go_enter Tryz.func59, Tryz.ntmps59
    go_wp2_with fail
    go_ret
    exact ⟨by rw [HG.out]; rfl, (Below.refl _ _).alloc (Nat.le_refl _) _⟩
  by_cases h7 : d.size ≤ 200
  case neg =>
    have hg : Tc.good ⟨c, ch, b, k, s, d⟩ = false := by
      rw [Bool.eq_false_iff, Ne, Tc.good_iff]; intro h; exact h7 (by simp only at h; omega)
    have HG := Lib.hid hg; clear hg
    have he := not_empty_of d h6
    have he2 := not_empty_eq d h6
    have hz : ¬ (d.size : Int) ≤ 200 := by omega
    go_enter Tryz.func59, Tryz.ntmps59
    go_wp2_with fail
    go_ret
    exact ⟨by rw [HG.out]; rfl, (Below.refl _ _).alloc (Nat.le_refl _) _⟩
  have he := not_empty_of d h6
  have he2 := not_empty_eq d h6
  have hz : (d.size : Int) ≤ 200 := by omega
  have hg : Tc.good ⟨c, ch, b, k, s, d⟩ = (b || !k) := by
    simp [Tc.good, h0, h1, h2, h3, h4, h5, h6, h7]
  have HG := Lib.hid hg; clear hg
  cases b <;> cases k
  all_goals
    go_enter Tryz.func59, Tryz.ntmps59
    go_wp2_with fail
    go_ret
    exact ⟨by rw [HG.out]; rfl, (Below.refl _ _).alloc (Nat.le_refl _) _⟩
end
section
open Go.RowKit
attribute [local go_sem] wrap_u8_w16
set_option maxHeartbeats 1000000 in
theorem Sum16_any (b : ByteArray) (w : World) (hb : b.size ≤ 1000000000) : Calls Tryz.prog 61 #[.string b] w fun e w' => e = .returned (.int .u16 (w16 (sum16 b.data.toList))) ∧ Below w.heap.size w w' := by
  go_enter Tryz.func61, Tryz.ntmps61
  go_wp2_with fail
  refine (Next16_any 0xffff#16 b _ hb).mono ?_
  rintro e w1 ⟨rfl, hL⟩
  have HL := Lib.hid hL; clear hL
  go_wp2_with fail
  go_ret
  exact ⟨rfl, HL.out⟩
end
section
open Go.RowKit
end
section
open Go.RowKit
def be2 (n : Nat) : List UInt8 := [UInt8.ofNat (n / 256), UInt8.ofNat n]
theorem be2_take (n k : Nat) (hk : k < 2) : (be2 n).take (k + 1) = (be2 n).take k ++ [UInt8.ofNat (n / 2 ^ (8 * (1 - k)))] := by
  match k, hk with
  | 0, _ => simp [be2]
  | 1, _ => simp [be2]
/-- The bytes of a string as a number, the highest first. -/
def num64 (l : List UInt8) : BitVec 64 := l.foldl (fun a c => a <<< 8 ||| z8 c) 0#64
theorem num64_snoc (l : List UInt8) (c : UInt8) : num64 (l ++ [c]) = num64 l <<< 8 ||| z8 c := by simp [num64, List.foldl_append]
theorem num64_two (c d : UInt8) : w64 (num64 [c, d]) = (c.toNat * 256 + d.toNat : Nat) := by
  have hc := c.toNat_lt
  have hd := d.toNat_lt
  have h : num64 [c, d] = BitVec.ofNat 64 (c.toNat * 256 + d.toNat) := by
    have e1 : num64 [c, d] = z8 c <<< 8 ||| z8 d := by simp [num64]
    rw [e1]
    apply BitVec.eq_of_toNat_eq
    have hs : c.toNat <<< 8 = c.toNat * 256 := by rw [Nat.shiftLeft_eq]
    have ho : c.toNat <<< 8 ||| d.toNat = c.toNat * 256 + d.toNat := by rw [← Nat.shiftLeft_add_eq_or_of_lt (by omega), hs]
    have h1 : c.toNat % 18446744073709551616 = c.toNat := by omega
    have h2 : d.toNat % 18446744073709551616 = d.toNat := by omega
    have h3 : c.toNat <<< 8 % 18446744073709551616 = c.toNat <<< 8 := by rw [hs]; omega
    simp only [z8, BitVec.toNat_or, BitVec.toNat_shiftLeft, BitVec.toNat_ofNat]
    simp only [Nat.reducePow, h1, h2, h3, ho]
    omega
  rw [h]; unfold w64; simp; omega
set_option maxHeartbeats 1000000 in
set_option maxRecDepth 100000 in
theorem number_any (b : ByteArray) (w : World) (hb : b.size ≤ 1000000) : Calls Tryz.prog 96 #[.string b] w fun e w' => e = .returned (.int .u64 (w64 (num64 b.data.toList))) ∧ w = w' := by
  go_enter Tryz.func96, Tryz.ntmps96
  go_wp2_with fail
  go_loop [3, 7] (fun s i => ∃ k : Nat, k ≤ b.size ∧ i = .int .i64 k ∧ s = .int .u64 (w64 (num64 (b.data.toList.take k)))) (fun _ i => b.size - (intOf i).toNat)
  case atStart => exact ⟨0, Nat.zero_le _, rfl, by simp [num64]; rfl⟩
  case round =>
    obtain ⟨i, hi, rfl, rfl⟩ := hrel
    by_cases hlt : i < b.size
    · obtain ⟨s, hs⟩ : ∃ s, s = num64 (b.data.toList.take i) := ⟨_, rfl⟩
      rw [← hs]
      have HS := Lib.hid hs; clear hs
      go_wp2_with fail
      go_round
      case rel => exact ⟨i + 1, by omega, by go_num, by rw [take_succ_str b i hlt, num64_snoc, ← HS.out]⟩
      case measure => simp [intOf]; omega
    · obtain rfl : i = b.size := by omega
      have e1 : b.data.toList.take b.size = b.data.toList := List.take_of_length_le (by simp)
      rw [e1]
      clear e1
      go_wp2_with fail
      go_ret
      exact ⟨rfl, rfl⟩
set_option maxHeartbeats 2000000 in
set_option maxRecDepth 100000 in
theorem appended_any (base : Nat) (v : Value) (xs : List UInt8) (n : Nat) (w : World) (hn : n < 65536) (hb : base ≤ w.heap.size) (hx : xs.length ≤ 1000000) (hR : Row w base v xs) :
    Calls Tryz.prog 60 #[v, .int .u64 n, .int .i64 2] w fun e w' => ∃ v', e = .returned v' ∧ Row w' base v' (xs ++ be2 n) ∧ Below base w w' := by
  have HR := Lib.hid hR; clear hR
  go_enter Tryz.func60, Tryz.ntmps60
  go_wp2_with fail
  go_loopw [0, 7] (fun out i wr => ∃ k : Nat, k ≤ 2 ∧ i = .int .i64 ((1 : Int) - k) ∧ Below base w wr ∧ Row wr base out (xs ++ (be2 n).take k)) (fun _ i _ => (intOf i + 1).toNat)
  case atStart => exact ⟨0, by omega, by simp, Below.refl _ _, by simpa using HR.out⟩
  case round =>
    obtain ⟨k, hk, rfl, hL, hR⟩ := hrel
    have HL := Lib.hid hL; clear hL
    have HR := Lib.hid hR; clear hR
    by_cases hlt : k < 2
    · obtain ⟨l, hl⟩ : ∃ l, l = xs ++ (be2 n).take k := ⟨_, rfl⟩
      have HR := HR.out
      rw [← hl] at HR
      have hlen : l.length ≤ xs.length + 2 := by rw [hl]; simp [be2]; omega
      have Hl := Lib.hid hl; clear hl
      obtain ⟨oa, oc, rfl⟩ := row_form HR
      have hl3 := HL.out.size
      have HR0 := Lib.hid HR; clear HR
      go_wp2_with (at_builtin; refine append_byte _ rfl _ _ rfl base _ _ rfl (row_keep HR0.out ((Keep.refl [] _).alloc _) (fun _ _ => by simp)) wr.heap.size (UInt8.ofNat (n / 2 ^ (8 * (1 - k)))) rfl ?c1 ?c2 ?c3 ?_)
      case c1 =>
        have e : ((n : Int) / 2 ^ (8 * (1 - k)) % 256) = ((UInt8.ofNat (n / 2 ^ (8 * (1 - k)))).toNat : Int) := by
          rw [UInt8.toNat_ofNat']
          simp
        rw [e]
        exact (Blk.new wr [vb (UInt8.ofNat (n / 2 ^ (8 * (1 - k))))] 5).cell 0
      case c2 => omega
      case c3 => simp; omega
      intro v2 w2 hR2 hK2
      have K2 := ((Keep.refl _ wr).alloc _).trans hK2
      have L2 := HL.out.trans (K2.toBelowAt (by omega) (fun i hi => by rw [Option.mem_toList] at hi; exact (row_lt HR0.out i hi).1))
      have HR2 := Lib.hid hR2; have HL2 := Lib.hid L2
      clear hR2 hK2 K2 L2 hlen
      go_wp2_with fail
      go_roundw
      case rel => exact ⟨k + 1, by omega, by rw [show (1 - (k : Int) - 1) = 1 - ((k + 1 : Nat) : Int) by omega], HL2.out, by rw [be2_take n k hlt, ← List.append_assoc, ← Hl.out]; exact HR2.out⟩
      case measure => simp [intOf]; omega
    · obtain rfl : k = 2 := by omega
      go_wp2_with fail
      go_ret
      refine ⟨_, rfl, ?_, HL.out⟩
      simpa [be2] using HR.out
theorem make_row (w : World) (c : Nat) (ci : Int) (h : ci = c) (hc : c ≤ 1000000) : ∃ cur, (Instr.makeSlice 97 (.int .i64 0) (.int .i64 ci)).run Tryz.prog w = .ok (.slice (some ⟨w.heap.size, 0, none⟩) 0 c) (w.alloc (.cells cur 5)) ∧
    Row (w.alloc (.cells cur 5)) w.heap.size (.slice (some ⟨w.heap.size, 0, none⟩) 0 c) [] := by
  obtain ⟨i0, hi, hz0, hz1, hz2⟩ := info_parts info_u8
  subst h
  have hr := run_make (P := Tryz.prog) w 97 5 i0 _ Tryz.underlying97 hi hz0 .i64 .i64 0 c (Int.le_refl _) (by omega) (by rw [hz2]; omega) (by omega)
  simp only [Int.toNat_zero, Int.toNat_natCast] at hr
  refine ⟨_, hr, .inr ⟨w.heap.size, c, _, (0, 0), rfl, Nat.le_refl _, heap_alloc_new w _, .inl rfl, Nat.zero_le _, ?_, ?_, ?_⟩⟩
  · unfold maxLen; omega
  · rw [size_madeCells, hz1]; omega
  · simp
end
end Go.Proofs.YtgopighmifpefaaGreatDoor
