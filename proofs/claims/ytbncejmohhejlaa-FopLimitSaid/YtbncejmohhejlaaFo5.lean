/- What is proved here: methods of the automaton on the ground: the end of the service, the events, marks. No condition. -/
import Derived.Test.YtbncejmohhejlaaFo4
set_option linter.unusedVariables false
set_option linter.unusedSimpArgs false
namespace Go.Proofs.Ytbncejmohhejlaa
open Go.RowKit
def alertF (s : Fs) (why : Int) : Fs := { s with service := 0, due := false, waiting := [], sent := [], events := s.events ++ [⟨3, 0, why⟩] }
set_option maxHeartbeats 2000000 in
set_option maxRecDepth 100000 in
theorem alert_in (why : Int) (s : Fs) (g : Nat) (S : List Nat) (w : World) (hn : s.events.length ≤ 1000000) (h : FopIn w g S s) : Calls Try.prog 49 #[.pointer (some ⟨g, 0, none⟩), .int .i64 why] w fun x w' => x = .returned (.tuple #[]) ∧ FopTo w w' g S (alertF s why) := by
  have HT := Lib.hid (Pt.refl h)
  clear h
  obtain ⟨ve, vw, vs, vb, hF, hS⟩ := HT.out.in_
  have HF := Lib.hid hF; have HS := Lib.hid hS; have HB := Lib.hid hF.blk; clear hF hS
  have c6 := HB.out.cell 6
  have c13 := HB.out.cell 13
  have c14 := HB.out.cell 14
  have c16 := HB.out.cell 16
  have f6 := HB.out.free 6
  have f13 := HB.out.free 13
  have f14 := HB.out.free 14
  have f16 := HB.out.free 16
  simp only [Fs.cells, List.getElem?_cons_zero, List.getElem?_cons_succ] at c6 c13 c14 c16
  go_enter Try.func49, Try.ntmps49
  go_upto_region 2 with fail
  have hk1 : Keep [g] w ((w.setCell ⟨g, 6, none⟩ (.int .i64 0)).setCell ⟨g, 16, none⟩ (.bool false)) := ((Keep.refl _ _).setCell (.inl (by simp)) _).setCell (.inl (by simp)) _
  have hF1 := HF.out.upd (s' := { s with service := 0, due := false }) ((HB.out.set 6 (.int .i64 0)).set 16 (.bool false)) hk1 rfl rfl rfl rfl
  have hk2 := (Keep.refl (g :: vw.ownBlock.toList) ((w.setCell ⟨g, 6, none⟩ (.int .i64 0)).setCell ⟨g, 16, none⟩ (.bool false))).setCell (p := ⟨g, 13, none⟩) (.inl (by simp)) (.slice none 0 0)
  have hF2 := hF1.rowW (s' := { s with service := 0, due := false, waiting := [] }) (vw' := .slice none 0 0) (hF1.blk.set 13 (.slice none 0 0)) hk2 (fun k e => by cases e) (q_nil _ _ _ _) rfl rfl rfl
  have hk3 := (Keep.refl (g :: vs.ownBlock.toList) (((w.setCell ⟨g, 6, none⟩ (.int .i64 0)).setCell ⟨g, 16, none⟩ (.bool false)).setCell ⟨g, 13, none⟩ (.slice none 0 0))).setCell (p := ⟨g, 14, none⟩) (.inl (by simp)) (.slice none 0 0)
  have hF3 := hF2.rowS (s' := { s with service := 0, due := false, waiting := [], sent := [] }) (vs' := .slice none 0 0) (hF2.blk.set 14 (.slice none 0 0)) hk3 (fun k e => by cases e) (q_nil _ _ _ _) rfl rfl rfl
  have hT3 := FopTo.row HS.out hF3 (((hk1.mono (by intro i hi; simp at hi; subst hi; exact own_g)).trans (hk2.mono own_w)).trans (hk3.mono own_s)) Mv.rfl (fun k e => by cases e) (fun k e => by cases e) Mv.rfl
  obtain ⟨S1, hT⟩ := HT.out.trans hT3
  refine gen_world (fun W => Pt w W g S S1 { s with service := 0, due := false, waiting := [], sent := [] }) hT ?_
  clear hk1 hF1 hk2 hF2 hk3 hF3 hT3 hT HT HF HS HB c6 c13 c14 c16 f6 f13 f14 f16
  rintro w1 hT
  have HT := Lib.hid hT; clear hT
  go_wp2_with fail
  refine (report_in ⟨3, 0, why⟩ { s with service := 0, due := false, waiting := [], sent := [] } g S1 _ hn HT.out.in_).mono ?_
  rintro e w2 ⟨rfl, hT⟩
  obtain ⟨S1, hT⟩ := HT.out.trans hT
  replace HT := Lib.hid hT; clear hT
  go_wp2_with fail
  go_end0
  exact ⟨rfl, HT.out.to⟩
/-- The row of events that is handed over belongs to the automaton no more. -/
def Given (w w' : World) (S : List Nat) (S' : List Nat) (l : List Ev) (v : Value) : Prop := QRow w' 0 46 3 v l.length (evRow l) ∧ ∀ k, v.ownBlock = some k → k ∉ S' ∧ (k ∈ S ∨ w.heap.size ≤ k)
set_option maxHeartbeats 2000000 in
set_option maxRecDepth 100000 in
theorem reported_in (s : Fs) (g : Nat) (S : List Nat) (w : World) (h : FopIn w g S s) : Calls Try.prog 47 #[.pointer (some ⟨g, 0, none⟩)] w fun x w' => ∃ v S', x = .returned v ∧ Pt w w' g S S' { s with events := [] } ∧ Given w w' S S' s.events v := by
  obtain ⟨ve, vw, vs, vb, hF, hS⟩ := h
  obtain ⟨a, c, hv⟩ := qform hF.ev
  have HV := Lib.hid hv
  have HF := Lib.hid hF; have HS := Lib.hid hS; have HB := Lib.hid hF.blk; clear hF hS
  have c0 := HB.out.cell 0
  have f0 := HB.out.free 0
  simp only [Fs.cells, List.getElem?_cons_zero, List.getElem?_cons_succ] at c0
  rw [hv] at c0
  clear hv
  go_enter Try.func47, Try.ntmps47
  go_wp2_with fail
  go_ret
  have hk := (Keep.refl (g :: ve.ownBlock.toList) w).setCell (p := ⟨g, 0, none⟩) (.inl (by simp)) (.slice none 0 0)
  have hk0 := (Keep.refl [g] w).setCell (p := ⟨g, 0, none⟩) (.inl (by simp)) (.slice none 0 0)
  have hF1 := HF.out.rowE (s' := { s with events := [] }) (ve' := .slice none 0 0) (HB.out.set 0 (.slice none 0 0)) hk (fun k e => by cases e) (q_nil _ _ _ _) rfl rfl rfl
  refine ⟨ve, own g (.slice none 0 0) vw vs vb, (by rw [HV.out]; rfl), ⟨⟨_, _, _, _, hF1, fun _ h => h⟩, hk0.mono (by intro i hi; simp at hi; subst hi; exact HS.out _ own_g), fun k hk => .inl (HS.out k ?_)⟩, q_keep HF.out.ev hk0 (fun x e h => ?_), fun k hk => ⟨fun hm => ?_, .inl (HS.out k (mem_own.2 (.inr (.inl hk))))⟩⟩
  · rcases mem_own.1 hk with e | e | e
    · exact mem_own.2 (.inl e)
    · cases e
    · exact mem_own.2 (.inr (.inr e))
  · simp at h; subst h; exact HF.out.ge e
  · rcases mem_own.1 hm with e | e | e | e | e
    · rw [e] at hk; exact HF.out.ge hk
    · cases e
    · exact HF.out.ew k hk e
    · exact HF.out.es k hk e
    · exact HF.out.eb k hk e
set_option maxHeartbeats 1000000 in
theorem Ready_in (s : Fs) (g : Nat) (S : List Nat) (w : World) (hw : s.window ≠ 0) (h : FopIn w g S s) : Calls Try.prog 12 #[.pointer (some ⟨g, 0, none⟩)] w fun x w' => x = .returned (.bool (s.service == 2)) ∧ w = w' := by
  have HN := Lib.hid (foNone_in s g S w false (by simpa using hw) h)
  obtain ⟨ve, vw, vs, vb, hF, hS⟩ := h
  have c6 := hF.blk.cell 6
  simp only [Fs.cells, List.getElem?_cons_zero, List.getElem?_cons_succ] at c6
  clear hF hS
  go_enter Try.func12, Try.ntmps12
  go_wp2_with fail
  refine HN.out.mono ?_
  rintro e w1 ⟨rfl, rfl⟩
  go_wp2_with fail
  go_ret
  exact ⟨rfl, rfl⟩
set_option maxHeartbeats 1000000 in
theorem Waiting_in (s : Fs) (g : Nat) (S : List Nat) (w : World) (hw : s.window ≠ 0) (h : FopIn w g S s) : Calls Try.prog 20 #[.pointer (some ⟨g, 0, none⟩)] w fun x w' => x = .returned (.int .i64 (s.waiting.length : Nat)) ∧ w = w' := by
  have HN := Lib.hid (foNone_in s g S w false (by simpa using hw) h)
  have HL := Lib.hid (lenW_in s g S w h)
  clear h
  go_enter Try.func20, Try.ntmps20
  go_wp2_with fail
  refine HN.out.mono ?_
  rintro e w1 ⟨rfl, rfl⟩
  go_wp2_with fail
  refine HL.out.mono ?_
  rintro e w1 ⟨rfl, rfl⟩
  go_wp2_with fail
  go_ret
  exact ⟨rfl, rfl⟩
set_option maxHeartbeats 1000000 in
theorem Sent_in (s : Fs) (g : Nat) (S : List Nat) (w : World) (hw : s.window ≠ 0) (h : FopIn w g S s) : Calls Try.prog 19 #[.pointer (some ⟨g, 0, none⟩)] w fun x w' => x = .returned (.int .i64 (s.sent.length : Nat)) ∧ w = w' := by
  have HN := Lib.hid (foNone_in s g S w false (by simpa using hw) h)
  have HL := Lib.hid (lenS_in s g S w h)
  clear h
  go_enter Try.func19, Try.ntmps19
  go_wp2_with fail
  refine HN.out.mono ?_
  rintro e w1 ⟨rfl, rfl⟩
  go_wp2_with fail
  refine HL.out.mono ?_
  rintro e w1 ⟨rfl, rfl⟩
  go_wp2_with fail
  go_ret
  exact ⟨rfl, rfl⟩
def unfitF (d : ByteArray) : Bool := d.size == 0 || decide (200 < d.size)
set_option maxHeartbeats 1000000 in
theorem unfit_any (d : ByteArray) (w : World) : Calls Try.prog 48 #[.string d] w fun x w' => x = .returned (.bool (unfitF d)) ∧ w = w' := by
  by_cases h0 : d.size = 0
  · have hd : d = ⟨#[]⟩ := by
      apply ByteArray.ext
      exact Array.eq_empty_of_size_eq_zero h0
    subst hd
    go_enter Try.func48, Try.ntmps48
    go_wp2_with fail
    go_ret
    exact ⟨rfl, rfl⟩
  · have hs : (d.toList == ([] : List UInt8)) = false := by
      rw [beq_eq_false_iff_ne]
      intro h
      rw [ByteArray.toList_eq] at h
      exact h0 (by simpa using congrArg List.length h)
    have hu : unfitF d = decide ((200 : Int) < (d.size : Int)) := by
      have : (d.size == 0) = false := by simpa using h0
      unfold unfitF
      rw [this, Bool.false_or]
      exact decide_eq_decide.2 (by omega)
    rw [hu]
    clear hu
    have hs1 : ¬ d.toList = [] := by simpa using hs
    have hs2 : d.toList.isEmpty = false := by simpa using hs1
    go_enter Try.func48, Try.ntmps48
    go_wp2_with fail
    go_ret
    exact ⟨rfl, rfl⟩
end Go.Proofs.Ytbncejmohhejlaa
