/- What is proved here: methods of the automaton on the ground: Send, Bypass, Tick. -/
import Derived.Test.YtbncejmohhejlaaFo7
set_option linter.unusedVariables false
set_option linter.unusedSimpArgs false
namespace Go.Proofs.Ytbncejmohhejlaa
open Go.RowKit
theorem Pt.drewN {w W : World} {g : Nat} {S S1 : List Nat} {s : Fs} (h : Pt w W g S S1 s) (n : Nat) : Pt w (W.drewN n) g S S1 s := ⟨h.in_.keep ((Keep.refl [] _).drewN n) (fun _ _ _ => by simp), h.keep.drewN n, h.new⟩
section
variable (s : Fs) (g : Nat) (S : List Nat) (w : World)
set_option maxHeartbeats 2000000 in
set_option maxRecDepth 100000 in
theorem Send_down (d : ByteArray) (hd : unfitF d = false) (hs : s.service ≠ 2) (hw : s.window ≠ 0) (h : FopIn w g S s) :
    Calls Try.prog 16 #[.pointer (some ⟨g, 0, none⟩), .string d] w fun e w' => e = .returned (.tuple #[.int .i64 0, .int .i64 9]) ∧ w = w' := by
  have HN := Lib.hid (foNone_in s g S w false (by simpa using hw) h)
  have HU := Lib.hid (unfit_any d w); rw [hd] at HU
  have HT := Lib.hid (Pt.refl h)
  have k0 : (s.service != 2) = true := by simpa using hs
  clear h hs hw hd
  obtain ⟨ve, vw, vs, vb, hF, hS⟩ := HT.out.in_
  have HF := Lib.hid hF; have HS := Lib.hid hS; have HB := Lib.hid hF.blk; clear hF hS
  have c6 := HB.out.cell 6
  simp only [Fs.cells, List.getElem?_cons_zero, List.getElem?_cons_succ] at c6
  go_enter Try.func16, Try.ntmps16
  go_wp2_with fail
  refine (HN.out).mono ?_
  rintro e _ ⟨rfl, rfl⟩
  go_wp2_with fail
  refine (HU.out).mono ?_
  rintro e _ ⟨rfl, rfl⟩
  go_wp2_with fail
  go_ret2
  exact ⟨rfl, rfl⟩
set_option maxHeartbeats 2000000 in
set_option maxRecDepth 100000 in
theorem Send_full (d : ByteArray) (hd : unfitF d = false) (hs : s.service = 2) (hl : 256 ≤ s.waiting.length) (hw : s.window ≠ 0) (h : FopIn w g S s) :
    Calls Try.prog 16 #[.pointer (some ⟨g, 0, none⟩), .string d] w fun e w' => e = .returned (.tuple #[.int .i64 0, .int .i64 5]) ∧ w = w' := by
  have HN := Lib.hid (foNone_in s g S w false (by simpa using hw) h)
  have HU := Lib.hid (unfit_any d w); rw [hd] at HU
  have HW := Lib.hid (lenW_in s g S w h)
  have HT := Lib.hid (Pt.refl h)
  have k0 : (s.service != 2) = false := by simpa using hs
  have k1 : (256 : Int) ≤ (s.waiting.length : Int) := by omega
  clear h hs hw hd
  obtain ⟨ve, vw, vs, vb, hF, hS⟩ := HT.out.in_
  have HF := Lib.hid hF; have HS := Lib.hid hS; have HB := Lib.hid hF.blk; clear hF hS
  have c6 := HB.out.cell 6
  simp only [Fs.cells, List.getElem?_cons_zero, List.getElem?_cons_succ] at c6
  go_enter Try.func16, Try.ntmps16
  go_wp2_with fail
  refine (HN.out).mono ?_
  rintro e _ ⟨rfl, rfl⟩
  go_wp2_with fail
  refine (HU.out).mono ?_
  rintro e _ ⟨rfl, rfl⟩
  go_wp2_with fail
  refine (HW.out).mono ?_
  rintro e _ ⟨rfl, rfl⟩
  go_wp2_with fail
  go_ret2
  exact ⟨rfl, rfl⟩
def sendF (s : Fs) (d : ByteArray) : Fs := { s with last := s.last + 1, waiting := s.waiting ++ [⟨s.last + 1, d, false⟩] }
set_option maxHeartbeats 2000000 in
set_option maxRecDepth 100000 in
theorem Send_ok (d : ByteArray) (hd : unfitF d = false) (hs : s.service = 2) (hl : s.waiting.length < 256) (ha : 0 ≤ s.last) (hb : s.last ≤ 1000000000) (hw : s.window ≠ 0) (h : FopIn w g S s) :
    Calls Try.prog 16 #[.pointer (some ⟨g, 0, none⟩), .string d] w fun e w' => e = .returned (.tuple #[.int .i64 (s.last + 1), .int .i64 0]) ∧ FopTo w w' g S (sendF s d) := by
  have HN := Lib.hid (foNone_in s g S w false (by simpa using hw) h)
  have HU := Lib.hid (unfit_any d w); rw [hd] at HU
  have HW := Lib.hid (lenW_in s g S w h)
  have HT := Lib.hid (Pt.refl h)
  have k0 : (s.service != 2) = false := by simpa using hs
  have k1 : ¬ (256 : Int) ≤ (s.waiting.length : Int) := by omega
  have hwl : s.waiting.length ≤ 1000000 := by omega
  clear h hs hw hd
  obtain ⟨ve, vw, vs, vb, hF, hS⟩ := HT.out.in_
  have HF := Lib.hid hF; have HS := Lib.hid hS; have HB := Lib.hid hF.blk; clear hF hS
  have c6 := HB.out.cell 6
  have c12 := HB.out.cell 12
  have f12 := HB.out.free 12
  simp only [Fs.cells, List.getElem?_cons_zero, List.getElem?_cons_succ] at c6 c12
  go_enter Try.func16, Try.ntmps16
  go_wp2_with fail
  refine (HN.out).mono ?_
  rintro e _ ⟨rfl, rfl⟩
  go_wp2_with fail
  refine (HU.out).mono ?_
  rintro e _ ⟨rfl, rfl⟩
  go_wp2_with fail
  refine (HW.out).mono ?_
  rintro e _ ⟨rfl, rfl⟩
  go_upto_region 10 with fail
  replace HT := Lib.hid (HT.out.upd (s' := { s with last := s.last + 1 }) HF.out HS.out (HB.out.set 12 _) ((Keep.refl [g] _).setCell (.inl (by simp)) _) rfl rfl rfl rfl)
  clear HF HS HB c6 c12 f12
  refine gen_world (fun W => Pt w W g S S { s with last := s.last + 1 }) HT.out ?_
  clear HT
  rintro w1 hT
  have HT := Lib.hid hT; clear hT
  obtain ⟨ve, vw, vs, vb, hF, hS⟩ := HT.out.in_
  have HF := Lib.hid hF; have HS := Lib.hid hS; have HB := Lib.hid hF.blk; clear hF hS
  have c12 := HB.out.cell 12
  simp only [Fs.cells, List.getElem?_cons_zero, List.getElem?_cons_succ] at c12
  have x12 := (HB.out.drew.cell 12); simp only [Fs.cells, List.getElem?_cons_zero, List.getElem?_cons_succ] at x12
  go_region_with (first | (go_at_call 43; refine (pushW_in ⟨s.last + 1, d, false⟩ { s with last := s.last + 1 } g S _ hwl HT.out.drew.in_).mono ?_; rintro e w2 ⟨rfl, hT⟩) | fail)
  obtain ⟨S1, hT⟩ := HT.out.drew.trans hT
  replace HT := Lib.hid hT; clear hT
  clear HF HS HB c12 x12
  obtain ⟨ve, vw, vs, vb, hF, hS⟩ := HT.out.in_
  have HF := Lib.hid hF; have HS := Lib.hid hS; have HB := Lib.hid hF.blk; clear hF hS
  have c12 := HB.out.cell 12
  simp only [Fs.cells, List.getElem?_cons_zero, List.getElem?_cons_succ] at c12
  go_wp2_with fail
  go_ret2
  exact ⟨rfl, HT.out.to⟩
set_option maxHeartbeats 2000000 in
set_option maxRecDepth 100000 in
theorem Bypass_full (d : ByteArray) (hd : unfitF d = false) (hl : 256 ≤ s.byp.length) (hw : s.window ≠ 0) (h : FopIn w g S s) :
    Calls Try.prog 21 #[.pointer (some ⟨g, 0, none⟩), .string d] w fun e w' => e = .returned (.int .i64 5) ∧ w = w' := by
  have HN := Lib.hid (foNone_in s g S w false (by simpa using hw) h)
  have HU := Lib.hid (unfit_any d w); rw [hd] at HU
  have HW := Lib.hid (lenB_in s g S w h)
  have k1 : (256 : Int) ≤ (s.byp.length : Int) := by omega
  clear h hw hd
  go_enter Try.func21, Try.ntmps21
  go_wp2_with fail
  refine (HN.out).mono ?_
  rintro e _ ⟨rfl, rfl⟩
  go_wp2_with fail
  refine (HU.out).mono ?_
  rintro e _ ⟨rfl, rfl⟩
  go_wp2_with fail
  refine (HW.out).mono ?_
  rintro e _ ⟨rfl, rfl⟩
  go_wp2_with fail
  go_ret
  exact ⟨rfl, rfl⟩
set_option maxHeartbeats 2000000 in
set_option maxRecDepth 100000 in
theorem Bypass_ok (d : ByteArray) (hd : unfitF d = false) (hl : s.byp.length < 256) (hw : s.window ≠ 0) (h : FopIn w g S s) :
    Calls Try.prog 21 #[.pointer (some ⟨g, 0, none⟩), .string d] w fun e w' => e = .returned (.int .i64 0) ∧ FopTo w w' g S { s with byp := s.byp ++ [d] } := by
  have HN := Lib.hid (foNone_in s g S w false (by simpa using hw) h)
  have HU := Lib.hid (unfit_any d w); rw [hd] at HU
  have HW := Lib.hid (lenB_in s g S w h)
  have HT := Lib.hid (Pt.refl h)
  have k1 : ¬ (256 : Int) ≤ (s.byp.length : Int) := by omega
  have hwl : s.byp.length ≤ 1000000 := by omega
  clear h hw hd
  go_enter Try.func21, Try.ntmps21
  go_wp2_with fail
  refine (HN.out).mono ?_
  rintro e _ ⟨rfl, rfl⟩
  go_wp2_with fail
  refine (HU.out).mono ?_
  rintro e _ ⟨rfl, rfl⟩
  go_wp2_with fail
  refine (HW.out).mono ?_
  rintro e _ ⟨rfl, rfl⟩
  go_wp2_with fail
  refine (pushB_in d s g S _ hwl HT.out.in_).mono ?_
  rintro e w2 ⟨rfl, hT⟩
  obtain ⟨S1, hT⟩ := HT.out.trans hT
  replace HT := Lib.hid hT; clear hT
  go_wp2_with fail
  go_ret
  exact ⟨rfl, HT.out.to⟩
set_option maxHeartbeats 2000000 in
set_option maxRecDepth 100000 in
theorem Tick_idle (by_ : Int) (h0 : 0 ≤ by_) (h1 : by_ ≤ 1073741824) (hp : s.susp = false) (hs : s.service = 0 ∨ s.service = 2 ∧ s.sent = []) (hw : s.window ≠ 0) (h : FopIn w g S s) :
    Calls Try.prog 18 #[.pointer (some ⟨g, 0, none⟩), .int .i64 by_] w fun e w' => e = .returned (.tuple #[.slice none 0 0, .int .i64 0]) ∧ w = w' := by
  have HN := Lib.hid (foNone_in s g S w false (by simpa using hw) h)
  have HW := Lib.hid (lenS_in s g S w h)
  have HT := Lib.hid (Pt.refl h)
  have k0 : ¬ by_ < 0 := by omega
  have k1 : ¬ 1073741824 < by_ := by omega
  clear hw
  rcases hs with hs | ⟨hs, hl⟩
  · have k2 : (s.service == 0) = true := by simpa using hs
    clear h hs
    obtain ⟨ve, vw, vs, vb, hF, hS⟩ := HT.out.in_
    have HF := Lib.hid hF; have HS := Lib.hid hS; have HB := Lib.hid hF.blk; clear hF hS
    have c6 := HB.out.cell 6
    have c19 := HB.out.cell 19
    simp only [Fs.cells, List.getElem?_cons_zero, List.getElem?_cons_succ] at c6 c19
    rw [hp] at c19
    clear hp
    go_enter Try.func18, Try.ntmps18
    go_wp2_with fail
    refine (HN.out).mono ?_
    rintro e _ ⟨rfl, rfl⟩
    go_wp2_with fail
    go_ret2
    exact ⟨rfl, rfl⟩
  · have k2 : (s.service == 0) = false := by simp [hs]
    have k3 : (s.service == 2) = true := by simpa using hs
    rw [hl] at HW
    clear h hs hl
    obtain ⟨ve, vw, vs, vb, hF, hS⟩ := HT.out.in_
    have HF := Lib.hid hF; have HS := Lib.hid hS; have HB := Lib.hid hF.blk; clear hF hS
    have c6 := HB.out.cell 6
    have c19 := HB.out.cell 19
    simp only [Fs.cells, List.getElem?_cons_zero, List.getElem?_cons_succ] at c6 c19
    rw [hp] at c19
    clear hp
    go_enter Try.func18, Try.ntmps18
    go_wp2_with fail
    refine (HN.out).mono ?_
    rintro e _ ⟨rfl, rfl⟩
    go_wp2_with fail
    refine (HW.out).mono ?_
    rintro e _ ⟨rfl, rfl⟩
    go_wp2_with fail
    go_ret2
    exact ⟨rfl, rfl⟩
set_option maxHeartbeats 2000000 in
set_option maxRecDepth 100000 in
theorem Tick_wait (by_ : Int) (h0 : 0 ≤ by_) (h1 : by_ ≤ 1073741824) (hp : s.susp = false) (hs : s.service = 1 ∨ s.service = 2 ∧ 0 < s.sent.length) (hc0 : -4000000000000000000 ≤ s.clock) (hc1 : s.clock ≤ 4000000000000000000) (hc : 0 < s.clock - by_) (hw : s.window ≠ 0) (h : FopIn w g S s) :
    Calls Try.prog 18 #[.pointer (some ⟨g, 0, none⟩), .int .i64 by_] w fun e w' => e = .returned (.tuple #[.slice none 0 0, .int .i64 0]) ∧ FopTo w w' g S { s with clock := s.clock - by_ } := by
  have HN := Lib.hid (foNone_in s g S w false (by simpa using hw) h)
  have HW := Lib.hid (lenS_in s g S w h)
  have HT := Lib.hid (Pt.refl h)
  have k0 : ¬ by_ < 0 := by omega
  have k1 : ¬ 1073741824 < by_ := by omega
  have HQ := Lib.hid (show s.service = 1 ∨ s.service = 2 ∧ 0 < s.sent.length from hs)
  clear hw hs
  rcases HQ.out with hs | ⟨hs, hl⟩
  · have k2 : (s.service == 0) = false := by simp [hs]
    have k3 : (s.service == 2) = false := by simp [hs]
    have k9 : (s.service == 1) = true := by simp [hs]
    clear h hs
    obtain ⟨ve, vw, vs, vb, hF, hS⟩ := HT.out.in_
    have HF := Lib.hid hF; have HS := Lib.hid hS; have HB := Lib.hid hF.blk; clear hF hS
    have c6 := HB.out.cell 6
    have c11 := HB.out.cell 11
    have c19 := HB.out.cell 19
    have f11 := HB.out.free 11
    simp only [Fs.cells, List.getElem?_cons_zero, List.getElem?_cons_succ] at c6 c11 c19
    rw [hp] at c19
    clear hp
    go_enter Try.func18, Try.ntmps18
    go_wp2_with fail
    refine (HN.out).mono ?_
    rintro e _ ⟨rfl, rfl⟩
    go_wp2_with fail
    go_ret2
    exact ⟨rfl, (HT.out.upd (s' := { s with clock := s.clock - by_ }) HF.out HS.out (HB.out.set 11 _) ((Keep.refl [g] _).setCell (.inl (by simp)) _) rfl rfl rfl rfl).to⟩
  · have k2 : (s.service == 0) = false := by simp [hs]
    have k3 : (s.service == 2) = true := by simp [hs]
    have k9 : (s.service == 1) = false := by simp [hs]
    have k4 : ((s.sent.length : Int) == 0) = false := by simp only [beq_eq_false_iff_ne, ne_eq]; omega
    clear h hs hl
    obtain ⟨ve, vw, vs, vb, hF, hS⟩ := HT.out.in_
    have HF := Lib.hid hF; have HS := Lib.hid hS; have HB := Lib.hid hF.blk; clear hF hS
    have c6 := HB.out.cell 6
    have c11 := HB.out.cell 11
    have c19 := HB.out.cell 19
    have f11 := HB.out.free 11
    simp only [Fs.cells, List.getElem?_cons_zero, List.getElem?_cons_succ] at c6 c11 c19
    rw [hp] at c19
    clear hp
    go_enter Try.func18, Try.ntmps18
    go_wp2_with fail
    refine (HN.out).mono ?_
    rintro e _ ⟨rfl, rfl⟩
    go_wp2_with fail
    refine (HW.out).mono ?_
    rintro e _ ⟨rfl, rfl⟩
    go_wp2_with fail
    go_ret2
    exact ⟨rfl, (HT.out.upd (s' := { s with clock := s.clock - by_ }) HF.out HS.out (HB.out.set 11 _) ((Keep.refl [g] _).setCell (.inl (by simp)) _) rfl rfl rfl rfl).to⟩
set_option maxHeartbeats 2000000 in
set_option maxRecDepth 100000 in
theorem Tick_alert (by_ : Int) (h0 : 0 ≤ by_) (h1 : by_ ≤ 1073741824) (hp : s.susp = false) (hs : s.service = 1 ∨ s.service = 2 ∧ 0 < s.sent.length) (hc0 : -4000000000000000000 ≤ s.clock) (hc1 : s.clock ≤ 4000000000000000000) (hc : s.clock - by_ ≤ 0) (ht : s.limit ≤ s.tries) (hn : s.events.length ≤ 1000000) (hw : s.window ≠ 0) (h : FopIn w g S s) :
    Calls Try.prog 18 #[.pointer (some ⟨g, 0, none⟩), .int .i64 by_] w fun e w' => ∃ v S', e = .returned (.tuple #[v, .int .i64 0]) ∧ Pt w w' g S S' { alertF { s with clock := s.clock - by_ } 1 with events := [] } ∧ Given w w' S S' (s.events ++ [⟨3, 0, 1⟩]) v := by
  have HN := Lib.hid (foNone_in s g S w false (by simpa using hw) h)
  have HW := Lib.hid (lenS_in s g S w h)
  have HT := Lib.hid (Pt.refl h)
  have k0 : ¬ by_ < 0 := by omega
  have k1 : ¬ 1073741824 < by_ := by omega
  have HQ := Lib.hid (show s.service = 1 ∨ s.service = 2 ∧ 0 < s.sent.length from hs)
  clear hw hs
  have k5 : ¬ 0 < s.clock - by_ := by omega
  rcases HQ.out with hs | ⟨hs, hl⟩
  · have k2 : (s.service == 0) = false := by simp [hs]
    have k3 : (s.service == 2) = false := by simp [hs]
    have k9 : (s.service == 1) = true := by simp [hs]
    clear h hs
    obtain ⟨ve, vw, vs, vb, hF, hS⟩ := HT.out.in_
    have HF := Lib.hid hF; have HS := Lib.hid hS; have HB := Lib.hid hF.blk; clear hF hS
    have c4 := HB.out.cell 4
    have c6 := HB.out.cell 6
    have c10 := HB.out.cell 10
    have c11 := HB.out.cell 11
    have c19 := HB.out.cell 19
    have f11 := HB.out.free 11
    simp only [Fs.cells, List.getElem?_cons_zero, List.getElem?_cons_succ] at c4 c6 c10 c11 c19
    rw [hp] at c19
    clear hp
    go_enter Try.func18, Try.ntmps18
    go_wp2_with fail
    refine (HN.out).mono ?_
    rintro e _ ⟨rfl, rfl⟩
    go_upto_region 10 with fail
    replace HT := Lib.hid (HT.out.upd (s' := { s with clock := s.clock - by_ }) HF.out HS.out (HB.out.set 11 _) ((Keep.refl [g] _).setCell (.inl (by simp)) _) rfl rfl rfl rfl)
    clear HF HS HB c4 c6 c10 c11 c19 f11
    refine gen_world (fun W => Pt w W g S S { s with clock := s.clock - by_ }) HT.out ?_
    clear HT
    rintro w1 hT
    have HT := Lib.hid hT; clear hT
    obtain ⟨ve, vw, vs, vb, hF, hS⟩ := HT.out.in_
    have HF := Lib.hid hF; have HS := Lib.hid hS; have HB := Lib.hid hF.blk; clear hF hS
    have c4 := HB.out.cell 4
    have c10 := HB.out.cell 10
    simp only [Fs.cells, List.getElem?_cons_zero, List.getElem?_cons_succ] at c4 c10
    go_quiet (fail)
    refine post_any (fun W => Pt w W g S S { s with clock := s.clock - by_ }) (HT.out.drewN _) ?_
    clear HF HS HB c4 c10
    clear HT
    rintro w2 hT
    have HT := Lib.hid hT; clear hT
    go_wp2_with fail
    refine (alert_in 1 { s with clock := s.clock - by_ } g S _ hn HT.out.in_).mono ?_
    rintro e w3 ⟨rfl, hT⟩
    obtain ⟨S1, hT⟩ := HT.out.trans hT
    replace HT := Lib.hid hT; clear hT
    go_wp2_with fail
    refine (reported_in _ g _ _ HT.out.in_).mono ?_
    rintro e w4 ⟨v, S2, rfl, hP, hG⟩
    have HP := Lib.hid hP; have HG := Lib.hid hG; clear hP hG
    go_wp2_with fail
    go_ret2
    refine ⟨_, S2, rfl, ⟨HP.out.in_, HT.out.keep.trans_new HP.out.keep HT.out.new, fun x hx => ?_⟩, HG.out.1, fun x hx => ⟨(HG.out.2 x hx).1, ?_⟩⟩
    · rcases HP.out.new x hx with e | e
      · exact HT.out.new x e
      · exact .inr (Nat.le_trans HT.out.keep.size e)
    · rcases (HG.out.2 x hx).2 with e | e
      · exact HT.out.new x e
      · exact .inr (Nat.le_trans HT.out.keep.size e)
  · have k2 : (s.service == 0) = false := by simp [hs]
    have k3 : (s.service == 2) = true := by simp [hs]
    have k9 : (s.service == 1) = false := by simp [hs]
    have k4 : ((s.sent.length : Int) == 0) = false := by simp only [beq_eq_false_iff_ne, ne_eq]; omega
    clear h hs hl
    obtain ⟨ve, vw, vs, vb, hF, hS⟩ := HT.out.in_
    have HF := Lib.hid hF; have HS := Lib.hid hS; have HB := Lib.hid hF.blk; clear hF hS
    have c4 := HB.out.cell 4
    have c6 := HB.out.cell 6
    have c10 := HB.out.cell 10
    have c11 := HB.out.cell 11
    have c19 := HB.out.cell 19
    have f11 := HB.out.free 11
    simp only [Fs.cells, List.getElem?_cons_zero, List.getElem?_cons_succ] at c4 c6 c10 c11 c19
    rw [hp] at c19
    clear hp
    go_enter Try.func18, Try.ntmps18
    go_wp2_with fail
    refine (HN.out).mono ?_
    rintro e _ ⟨rfl, rfl⟩
    go_wp2_with fail
    refine (HW.out).mono ?_
    rintro e _ ⟨rfl, rfl⟩
    go_upto_region 10 with fail
    replace HT := Lib.hid (HT.out.upd (s' := { s with clock := s.clock - by_ }) HF.out HS.out (HB.out.set 11 _) ((Keep.refl [g] _).setCell (.inl (by simp)) _) rfl rfl rfl rfl)
    clear HF HS HB c4 c6 c10 c11 c19 f11
    refine gen_world (fun W => Pt w W g S S { s with clock := s.clock - by_ }) HT.out ?_
    clear HT
    rintro w1 hT
    have HT := Lib.hid hT; clear hT
    obtain ⟨ve, vw, vs, vb, hF, hS⟩ := HT.out.in_
    have HF := Lib.hid hF; have HS := Lib.hid hS; have HB := Lib.hid hF.blk; clear hF hS
    have c4 := HB.out.cell 4
    have c10 := HB.out.cell 10
    simp only [Fs.cells, List.getElem?_cons_zero, List.getElem?_cons_succ] at c4 c10
    go_quiet (fail)
    refine post_any (fun W => Pt w W g S S { s with clock := s.clock - by_ }) (HT.out.drewN _) ?_
    clear HF HS HB c4 c10
    clear HT
    rintro w2 hT
    have HT := Lib.hid hT; clear hT
    go_wp2_with fail
    refine (alert_in 1 { s with clock := s.clock - by_ } g S _ hn HT.out.in_).mono ?_
    rintro e w3 ⟨rfl, hT⟩
    obtain ⟨S1, hT⟩ := HT.out.trans hT
    replace HT := Lib.hid hT; clear hT
    go_wp2_with fail
    refine (reported_in _ g _ _ HT.out.in_).mono ?_
    rintro e w4 ⟨v, S2, rfl, hP, hG⟩
    have HP := Lib.hid hP; have HG := Lib.hid hG; clear hP hG
    go_wp2_with fail
    go_ret2
    refine ⟨_, S2, rfl, ⟨HP.out.in_, HT.out.keep.trans_new HP.out.keep HT.out.new, fun x hx => ?_⟩, HG.out.1, fun x hx => ⟨(HG.out.2 x hx).1, ?_⟩⟩
    · rcases HP.out.new x hx with e | e
      · exact HT.out.new x e
      · exact .inr (Nat.le_trans HT.out.keep.size e)
    · rcases (HG.out.2 x hx).2 with e | e
      · exact HT.out.new x e
      · exact .inr (Nat.le_trans HT.out.keep.size e)
def againF (s : Fs) : Fs := markF { s with tries := s.tries + 1, clock := s.timeout, asked := false, due := s.service == 1 && s.how != 2 }
set_option maxHeartbeats 2000000 in
set_option maxRecDepth 100000 in
theorem Tick_again (by_ : Int) (h0 : 0 ≤ by_) (h1 : by_ ≤ 1073741824) (hp : s.susp = false) (hs : s.service = 1 ∨ s.service = 2 ∧ 0 < s.sent.length) (hc0 : -4000000000000000000 ≤ s.clock) (hc1 : s.clock ≤ 4000000000000000000) (hc : s.clock - by_ ≤ 0) (ht : s.tries < s.limit) (ht0 : 0 ≤ s.tries) (ht1 : s.tries ≤ 1000) (hn : s.sent.length ≤ 1000000) (hw : s.window ≠ 0) (h : FopIn w g S s) :
    Calls Try.prog 18 #[.pointer (some ⟨g, 0, none⟩), .int .i64 by_] w fun e w' => e = .returned (.tuple #[.slice none 0 0, .int .i64 0]) ∧ FopTo w w' g S (againF s) := by
  have HN := Lib.hid (foNone_in s g S w false (by simpa using hw) h)
  have HW := Lib.hid (lenS_in s g S w h)
  have HT := Lib.hid (Pt.refl h)
  have k0 : ¬ by_ < 0 := by omega
  have k1 : ¬ 1073741824 < by_ := by omega
  have HQ := Lib.hid (show s.service = 1 ∨ s.service = 2 ∧ 0 < s.sent.length from hs)
  clear hw hs
  have k5 : ¬ 0 < s.clock - by_ := by omega
  have k6 : ¬ s.limit ≤ s.tries := by omega
  rcases HQ.out with hs | ⟨hs, hl⟩
  · have k2 : (s.service == 0) = false := by simp [hs]
    have k3 : (s.service == 2) = false := by simp [hs]
    have k9 : (s.service == 1) = true := by simp [hs]
    clear h hs
    obtain ⟨ve, vw, vs, vb, hF, hS⟩ := HT.out.in_
    have HF := Lib.hid hF; have HS := Lib.hid hS; have HB := Lib.hid hF.blk; clear hF hS
    have c4 := HB.out.cell 4
    have c6 := HB.out.cell 6
    have c10 := HB.out.cell 10
    have c11 := HB.out.cell 11
    have c19 := HB.out.cell 19
    have f11 := HB.out.free 11
    simp only [Fs.cells, List.getElem?_cons_zero, List.getElem?_cons_succ] at c4 c6 c10 c11 c19
    rw [hp] at c19
    clear hp
    go_enter Try.func18, Try.ntmps18
    go_wp2_with fail
    refine (HN.out).mono ?_
    rintro e _ ⟨rfl, rfl⟩
    go_upto_region 10 with fail
    replace HT := Lib.hid (HT.out.upd (s' := { s with clock := s.clock - by_ }) HF.out HS.out (HB.out.set 11 _) ((Keep.refl [g] _).setCell (.inl (by simp)) _) rfl rfl rfl rfl)
    clear HF HS HB c4 c6 c10 c11 c19 f11
    refine gen_world (fun W => Pt w W g S S { s with clock := s.clock - by_ }) HT.out ?_
    clear HT
    rintro w1 hT
    have HT := Lib.hid hT; clear hT
    obtain ⟨ve, vw, vs, vb, hF, hS⟩ := HT.out.in_
    have HF := Lib.hid hF; have HS := Lib.hid hS; have HB := Lib.hid hF.blk; clear hF hS
    have c4 := HB.out.cell 4
    have c10 := HB.out.cell 10
    simp only [Fs.cells, List.getElem?_cons_zero, List.getElem?_cons_succ] at c4 c10
    go_quiet (fail)
    refine post_any (fun W => Pt w W g S S { s with clock := s.clock - by_ }) (HT.out.drewN _) ?_
    clear HF HS HB c4 c10
    clear HT
    rintro w2 hT
    have HT := Lib.hid hT; clear hT
    obtain ⟨ve, vw, vs, vb, hF, hS⟩ := HT.out.in_
    have HF := Lib.hid hF; have HS := Lib.hid hS; have HB := Lib.hid hF.blk; clear hF hS
    have c5 := HB.out.cell 5
    have c6 := HB.out.cell 6
    have c7 := HB.out.cell 7
    have c10 := HB.out.cell 10
    have c11 := HB.out.cell 11
    have c16 := HB.out.cell 16
    have c20 := HB.out.cell 20
    have f10 := HB.out.free 10
    have f11 := HB.out.free 11
    have f16 := HB.out.free 16
    have f20 := HB.out.free 20
    simp only [Fs.cells, List.getElem?_cons_zero, List.getElem?_cons_succ] at c5 c6 c7 c10 c11 c16 c20
    go_wp2_with fail
    replace HT := Lib.hid (HT.out.upd (s' := { s with tries := s.tries + 1, clock := s.timeout, asked := false, due := s.how != 2 }) HF.out HS.out ((((HB.out.set 10 _).set 11 _).set 20 _).set 16 _) (((((Keep.refl [g] _).setCell (.inl (by simp)) _).setCell (.inl (by simp)) _).setCell (.inl (by simp)) _).setCell (.inl (by simp)) _) rfl rfl rfl rfl)
    clear HF HS HB c5 c6 c7 c10 c11 c16 c20 f10 f11 f16 f20
    refine (mark_in { s with tries := s.tries + 1, clock := s.timeout, asked := false, due := s.how != 2 } g S _ hn HT.out.in_).mono ?_
    rintro e w3 ⟨rfl, hT⟩
    obtain ⟨S1, hT⟩ := HT.out.trans hT
    replace HT := Lib.hid hT; clear hT
    go_wp2_with fail
    go_ret2
    refine ⟨rfl, ?_⟩
    have hA : againF s = markF { s with tries := s.tries + 1, clock := s.timeout, asked := false, due := s.how != 2 } := by unfold againF; rw [k9]; simp
    rw [hA]
    exact HT.out.to
  · have k2 : (s.service == 0) = false := by simp [hs]
    have k3 : (s.service == 2) = true := by simp [hs]
    have k9 : (s.service == 1) = false := by simp [hs]
    have k4 : ((s.sent.length : Int) == 0) = false := by simp only [beq_eq_false_iff_ne, ne_eq]; omega
    clear h hs hl
    obtain ⟨ve, vw, vs, vb, hF, hS⟩ := HT.out.in_
    have HF := Lib.hid hF; have HS := Lib.hid hS; have HB := Lib.hid hF.blk; clear hF hS
    have c4 := HB.out.cell 4
    have c6 := HB.out.cell 6
    have c10 := HB.out.cell 10
    have c11 := HB.out.cell 11
    have c19 := HB.out.cell 19
    have f11 := HB.out.free 11
    simp only [Fs.cells, List.getElem?_cons_zero, List.getElem?_cons_succ] at c4 c6 c10 c11 c19
    rw [hp] at c19
    clear hp
    go_enter Try.func18, Try.ntmps18
    go_wp2_with fail
    refine (HN.out).mono ?_
    rintro e _ ⟨rfl, rfl⟩
    go_wp2_with fail
    refine (HW.out).mono ?_
    rintro e _ ⟨rfl, rfl⟩
    go_upto_region 10 with fail
    replace HT := Lib.hid (HT.out.upd (s' := { s with clock := s.clock - by_ }) HF.out HS.out (HB.out.set 11 _) ((Keep.refl [g] _).setCell (.inl (by simp)) _) rfl rfl rfl rfl)
    clear HF HS HB c4 c6 c10 c11 c19 f11
    refine gen_world (fun W => Pt w W g S S { s with clock := s.clock - by_ }) HT.out ?_
    clear HT
    rintro w1 hT
    have HT := Lib.hid hT; clear hT
    obtain ⟨ve, vw, vs, vb, hF, hS⟩ := HT.out.in_
    have HF := Lib.hid hF; have HS := Lib.hid hS; have HB := Lib.hid hF.blk; clear hF hS
    have c4 := HB.out.cell 4
    have c10 := HB.out.cell 10
    simp only [Fs.cells, List.getElem?_cons_zero, List.getElem?_cons_succ] at c4 c10
    go_quiet (fail)
    refine post_any (fun W => Pt w W g S S { s with clock := s.clock - by_ }) (HT.out.drewN _) ?_
    clear HF HS HB c4 c10
    clear HT
    rintro w2 hT
    have HT := Lib.hid hT; clear hT
    obtain ⟨ve, vw, vs, vb, hF, hS⟩ := HT.out.in_
    have HF := Lib.hid hF; have HS := Lib.hid hS; have HB := Lib.hid hF.blk; clear hF hS
    have c5 := HB.out.cell 5
    have c6 := HB.out.cell 6
    have c7 := HB.out.cell 7
    have c10 := HB.out.cell 10
    have c11 := HB.out.cell 11
    have c16 := HB.out.cell 16
    have c20 := HB.out.cell 20
    have f10 := HB.out.free 10
    have f11 := HB.out.free 11
    have f16 := HB.out.free 16
    have f20 := HB.out.free 20
    simp only [Fs.cells, List.getElem?_cons_zero, List.getElem?_cons_succ] at c5 c6 c7 c10 c11 c16 c20
    go_wp2_with fail
    replace HT := Lib.hid (HT.out.upd (s' := { s with tries := s.tries + 1, clock := s.timeout, asked := false, due := false }) HF.out HS.out ((((HB.out.set 10 _).set 11 _).set 20 _).set 16 _) (((((Keep.refl [g] _).setCell (.inl (by simp)) _).setCell (.inl (by simp)) _).setCell (.inl (by simp)) _).setCell (.inl (by simp)) _) rfl rfl rfl rfl)
    clear HF HS HB c5 c6 c7 c10 c11 c16 c20 f10 f11 f16 f20
    refine (mark_in { s with tries := s.tries + 1, clock := s.timeout, asked := false, due := false } g S _ hn HT.out.in_).mono ?_
    rintro e w3 ⟨rfl, hT⟩
    obtain ⟨S1, hT⟩ := HT.out.trans hT
    replace HT := Lib.hid hT; clear hT
    go_wp2_with fail
    go_ret2
    refine ⟨rfl, ?_⟩
    have hA : againF s = markF { s with tries := s.tries + 1, clock := s.timeout, asked := false, due := false } := by unfold againF; rw [k9]; simp
    rw [hA]
    exact HT.out.to
end
end Go.Proofs.Ytbncejmohhejlaa
