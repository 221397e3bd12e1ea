/- What is proved here: small methods of the automaton on the ground. No condition. -/
import Derived.Test.YtbncejmohhejlaaFo3
set_option linter.unusedVariables false
set_option linter.unusedSimpArgs false
namespace Go.Proofs.Ytbncejmohhejlaa
open Go.RowKit
/-- From w to W only blocks of S have changed; the automaton s lies in the blocks S1. -/
structure Pt (w W : World) (g : Nat) (S S1 : List Nat) (s : Fs) : Prop where
  in_ : FopIn W g S1 s
  keep : Keep S w W
  new : ∀ k ∈ S1, k ∈ S ∨ w.heap.size ≤ k
theorem Pt.refl {w : World} {g : Nat} {S : List Nat} {s : Fs} (h : FopIn w g S s) : Pt w w g S S s := ⟨h, Keep.refl _ _, fun _ h => .inl h⟩
theorem Pt.to {w W : World} {g : Nat} {S S1 : List Nat} {s : Fs} (h : Pt w W g S S1 s) : FopTo w W g S s := ⟨S1, h.in_, h.keep, h.new⟩
theorem Pt.trans {w W W' : World} {g : Nat} {S S1 : List Nat} {s s' : Fs} (h : Pt w W g S S1 s) (k : FopTo W W' g S1 s') : ∃ S2, Pt w W' g S S2 s' := by
  obtain ⟨S2, k1, k2, k3⟩ := k
  refine ⟨S2, k1, h.keep.trans_new k2 h.new, fun x hx => ?_⟩
  rcases k3 x hx with e | e
  · exact h.new x e
  · exact .inr (Nat.le_trans h.keep.size e)
theorem Pt.upd {w w1 w2 : World} {g : Nat} {S S1 : List Nat} {s s' : Fs} {ve vw vs vb : Value} (hT : Pt w w1 g S S1 s) (h : FopAt w1 g s ve vw vs vb) (hS : ∀ k ∈ own g ve vw vs vb, k ∈ S1)
    (hB : Blk w2 g (s'.cells ve vw vs vb) 66) (k : Keep [g] w1 w2) (h1 : s'.events = s.events) (h2 : s'.waiting = s.waiting) (h3 : s'.sent = s.sent) (h4 : s'.byp = s.byp) : Pt w w2 g S S1 s' :=
  ⟨⟨ve, vw, vs, vb, h.upd hB k h1 h2 h3 h4, hS⟩, hT.keep.trans_new k (fun i hi => by simp at hi; subst hi; exact hT.new _ (hS _ (mem_own.2 (.inl rfl)))), hT.new⟩
theorem Pt.keepB {w W W' : World} {g : Nat} {S S1 : List Nat} {s : Fs} (h : Pt w W g S S1 s) (k : Below W.heap.size W W') : Pt w W' g S S1 s :=
  ⟨h.in_.below k, h.keep.below k h.keep.size, h.new⟩
theorem Pt.drew {w W : World} {g : Nat} {S S1 : List Nat} {s : Fs} (h : Pt w W g S S1 s) : Pt w W.drew g S S1 s := h.keepB (Below.refl _ _).drew
set_option maxHeartbeats 1000000 in
theorem qulen_any (g off : Nat) (cs : List Value) (T0 : TypeId) (a : Option Addr) (n c : Nat) (w : World) (hB : Blk w g cs T0) (hv : cs[off]? = some (.slice a n c)) : Calls Try.prog 41 #[.pointer (some ⟨g, off, none⟩)] w fun e w' => e = .returned (.int .i64 n) ∧ w = w' := by
  have c0 := (hB.cell off).trans hv
  clear hB hv
  go_enter Try.func41, Try.ntmps41
  go_wp2_with fail
  go_ret
  exact ⟨rfl, rfl⟩
set_option maxHeartbeats 1000000 in
theorem qslen_any (g off : Nat) (cs : List Value) (T0 : TypeId) (a : Option Addr) (n c : Nat) (w : World) (hB : Blk w g cs T0) (hv : cs[off]? = some (.slice a n c)) : Calls Try.prog 38 #[.pointer (some ⟨g, off, none⟩)] w fun e w' => e = .returned (.int .i64 n) ∧ w = w' := by
  have c0 := (hB.cell off).trans hv
  clear hB hv
  go_enter Try.func38, Try.ntmps38
  go_wp2_with fail
  go_ret
  exact ⟨rfl, rfl⟩
set_option maxHeartbeats 1000000 in
theorem foNone_nil (w : World) : Calls Try.prog 34 #[.pointer none] w fun e w' => e = .returned (.bool true) ∧ w = w' := by
  go_enter Try.func34, Try.ntmps34
  go_wp2_with fail
  go_ret
  exact ⟨rfl, rfl⟩
set_option maxHeartbeats 1000000 in
theorem foNone_blk (s : Fs) (g : Nat) (ve vw vs vb : Value) (w : World) (b : Bool) (hb : (s.window == 0) = b) (hB : Blk w g (s.cells ve vw vs vb) 66) : Calls Try.prog 34 #[.pointer (some ⟨g, 0, none⟩)] w fun e w' => e = .returned (.bool b) ∧ w = w' := by
  have c3 := hB.cell 3
  simp only [Fs.cells, List.getElem?_cons_zero, List.getElem?_cons_succ] at c3
  clear hB
  go_enter Try.func34, Try.ntmps34
  go_wp2_with fail
  go_ret
  exact ⟨rfl, rfl⟩
theorem foNone_in (s : Fs) (g : Nat) (S : List Nat) (w : World) (b : Bool) (hb : (s.window == 0) = b) (h : FopIn w g S s) : Calls Try.prog 34 #[.pointer (some ⟨g, 0, none⟩)] w fun e w' => e = .returned (.bool b) ∧ w = w' := by
  obtain ⟨ve, vw, vs, vb, hF, -⟩ := h
  exact foNone_blk s g ve vw vs vb w b hb hF.blk
theorem qform {w : World} {v : Value} {e : TypeId} {sz n : Nat} {xs : List Value} (h : QRow w 0 e sz v n xs) : ∃ a c, v = .slice a n c := by
  obtain ⟨a, c, h, _⟩ := q_form h
  exact ⟨a, c, h⟩
theorem lenW_in (s : Fs) (g : Nat) (S : List Nat) (w : World) (h : FopIn w g S s) : Calls Try.prog 41 #[.pointer (some ⟨g, 13, none⟩)] w fun e w' => e = .returned (.int .i64 (s.waiting.length : Nat)) ∧ w = w' := by
  obtain ⟨ve, vw, vs, vb, hF, -⟩ := h
  obtain ⟨a, c, hv⟩ := qform hF.wa
  exact qulen_any g 13 _ _ a _ c w hF.blk (by rw [← hv]; rfl)
theorem lenS_in (s : Fs) (g : Nat) (S : List Nat) (w : World) (h : FopIn w g S s) : Calls Try.prog 41 #[.pointer (some ⟨g, 14, none⟩)] w fun e w' => e = .returned (.int .i64 (s.sent.length : Nat)) ∧ w = w' := by
  obtain ⟨ve, vw, vs, vb, hF, -⟩ := h
  obtain ⟨a, c, hv⟩ := qform hF.se
  exact qulen_any g 14 _ _ a _ c w hF.blk (by rw [← hv]; rfl)
theorem lenB_in (s : Fs) (g : Nat) (S : List Nat) (w : World) (h : FopIn w g S s) : Calls Try.prog 38 #[.pointer (some ⟨g, 15, none⟩)] w fun e w' => e = .returned (.int .i64 (s.byp.length : Nat)) ∧ w = w' := by
  obtain ⟨ve, vw, vs, vb, hF, -⟩ := h
  obtain ⟨a, c, hv⟩ := qform hF.bp
  exact qslen_any g 15 _ _ a _ c w hF.blk (by rw [← hv]; rfl)
theorem report_in (e : Ev) (s : Fs) (g : Nat) (S : List Nat) (w : World) (hn : s.events.length ≤ 1000000) (h : FopIn w g S s) : Calls Try.prog 57 #[.pointer (some ⟨g, 0, none⟩), .agg #[.int .i64 e.kind, .int .i64 e.id, .int .i64 e.why]] w fun x w' => x = .returned (.tuple #[]) ∧ FopTo w w' g S { s with events := s.events ++ [e] } := by
  obtain ⟨ve, vw, vs, vb, hF, hS⟩ := h
  refine (report_any e.kind e.id e.why g 0 _ _ ve _ _ w hn hF.blk rfl hF.ev hF.ge).mono ?_
  rintro x w' ⟨rfl, v', hK, hB, hQ, hM⟩
  refine ⟨rfl, FopTo.row hS (hF.rowE (s' := { s with events := s.events ++ [e] }) hB hK hM ?_ rfl rfl rfl) (hK.mono own_e) hM Mv.rfl Mv.rfl Mv.rfl⟩
  rw [evRow_snoc, List.length_append]; exact hQ
theorem pushW_in (u : Ut) (s : Fs) (g : Nat) (S : List Nat) (w : World) (hn : s.waiting.length ≤ 1000000) (h : FopIn w g S s) : Calls Try.prog 43 #[.pointer (some ⟨g, 13, none⟩), .agg #[.int .i64 u.id, .string u.data, .bool u.mark]] w fun x w' => x = .returned (.tuple #[]) ∧ FopTo w w' g S { s with waiting := s.waiting ++ [u] } := by
  obtain ⟨ve, vw, vs, vb, hF, hS⟩ := h
  refine (qupush_any u.id u.data u.mark g 13 _ _ vw _ _ w hn hF.blk rfl hF.wa hF.gw).mono ?_
  rintro x w' ⟨rfl, v', hK, hB, hQ, hM⟩
  refine ⟨rfl, FopTo.row hS (hF.rowW (s' := { s with waiting := s.waiting ++ [u] }) hB hK hM ?_ rfl rfl rfl) (hK.mono own_w) Mv.rfl hM Mv.rfl Mv.rfl⟩
  rw [utRow_snoc, List.length_append]; exact hQ
theorem pushS_in (u : Ut) (s : Fs) (g : Nat) (S : List Nat) (w : World) (hn : s.sent.length ≤ 1000000) (h : FopIn w g S s) : Calls Try.prog 43 #[.pointer (some ⟨g, 14, none⟩), .agg #[.int .i64 u.id, .string u.data, .bool u.mark]] w fun x w' => x = .returned (.tuple #[]) ∧ FopTo w w' g S { s with sent := s.sent ++ [u] } := by
  obtain ⟨ve, vw, vs, vb, hF, hS⟩ := h
  refine (qupush_any u.id u.data u.mark g 14 _ _ vs _ _ w hn hF.blk rfl hF.se hF.gs).mono ?_
  rintro x w' ⟨rfl, v', hK, hB, hQ, hM⟩
  refine ⟨rfl, FopTo.row hS (hF.rowS (s' := { s with sent := s.sent ++ [u] }) hB hK hM ?_ rfl rfl rfl) (hK.mono own_s) Mv.rfl Mv.rfl hM Mv.rfl⟩
  rw [utRow_snoc, List.length_append]; exact hQ
theorem pushB_in (u : ByteArray) (s : Fs) (g : Nat) (S : List Nat) (w : World) (hn : s.byp.length ≤ 1000000) (h : FopIn w g S s) : Calls Try.prog 51 #[.pointer (some ⟨g, 15, none⟩), .string u] w fun x w' => x = .returned (.tuple #[]) ∧ FopTo w w' g S { s with byp := s.byp ++ [u] } := by
  obtain ⟨ve, vw, vs, vb, hF, hS⟩ := h
  refine (qspush_any u g 15 _ _ vb _ _ w hn hF.blk rfl hF.bp hF.gb).mono ?_
  rintro x w' ⟨rfl, v', hK, hB, hQ, hM⟩
  refine ⟨rfl, FopTo.row hS (hF.rowB (s' := { s with byp := s.byp ++ [u] }) hB hK hM ?_ rfl rfl rfl) (hK.mono own_b) Mv.rfl Mv.rfl Mv.rfl hM⟩
  rw [stRow_snoc, List.length_append]; exact hQ
theorem popW_in (u : Ut) (l : List Ut) (s : Fs) (g : Nat) (S : List Nat) (w : World) (hl : s.waiting = u :: l) (hn : l.length ≤ 1000000) (h : FopIn w g S s) : Calls Try.prog 42 #[.pointer (some ⟨g, 13, none⟩)] w fun x w' => x = .returned (.agg #[.int .i64 u.id, .string u.data, .bool u.mark]) ∧ FopTo w w' g S { s with waiting := l } := by
  obtain ⟨ve, vw, vs, vb, hF, hS⟩ := h
  have hq := hF.wa
  rw [hl] at hq
  refine (qupop_any u.id u.data u.mark g 13 _ _ vw l.length (utRow l) w hn (utRow_one l) hF.blk rfl hq hF.gw).mono ?_
  rintro x w' ⟨rfl, v', hK, hB, hQ, hM⟩
  have hM : Mv w vw v' := fun k hk => .inr (hM k hk)
  have hK : Keep (g :: vw.ownBlock.toList) w w' := hK.mono (by simp)
  exact ⟨rfl, FopTo.row hS (hF.rowW (s' := { s with waiting := l }) hB hK hM hQ rfl rfl rfl) (hK.mono own_w) Mv.rfl hM Mv.rfl Mv.rfl⟩
theorem popS_in (u : Ut) (l : List Ut) (s : Fs) (g : Nat) (S : List Nat) (w : World) (hl : s.sent = u :: l) (hn : l.length ≤ 1000000) (h : FopIn w g S s) : Calls Try.prog 42 #[.pointer (some ⟨g, 14, none⟩)] w fun x w' => x = .returned (.agg #[.int .i64 u.id, .string u.data, .bool u.mark]) ∧ FopTo w w' g S { s with sent := l } := by
  obtain ⟨ve, vw, vs, vb, hF, hS⟩ := h
  have hq := hF.se
  rw [hl] at hq
  refine (qupop_any u.id u.data u.mark g 14 _ _ vs l.length (utRow l) w hn (utRow_one l) hF.blk rfl hq hF.gs).mono ?_
  rintro x w' ⟨rfl, v', hK, hB, hQ, hM⟩
  have hM : Mv w vs v' := fun k hk => .inr (hM k hk)
  have hK : Keep (g :: vs.ownBlock.toList) w w' := hK.mono (by simp)
  exact ⟨rfl, FopTo.row hS (hF.rowS (s' := { s with sent := l }) hB hK hM hQ rfl rfl rfl) (hK.mono own_s) Mv.rfl Mv.rfl hM Mv.rfl⟩
theorem popB_in (u : ByteArray) (l : List ByteArray) (s : Fs) (g : Nat) (S : List Nat) (w : World) (hl : s.byp = u :: l) (hn : l.length ≤ 1000000) (h : FopIn w g S s) : Calls Try.prog 40 #[.pointer (some ⟨g, 15, none⟩)] w fun x w' => x = .returned (.string u) ∧ FopTo w w' g S { s with byp := l } := by
  obtain ⟨ve, vw, vs, vb, hF, hS⟩ := h
  have hq := hF.bp
  rw [hl] at hq
  refine (qspop_any u g 15 _ _ vb l.length (stRow l) w hn (stRow_one l) hF.blk rfl hq hF.gb).mono ?_
  rintro x w' ⟨rfl, v', hK, hB, hQ, hM⟩
  have hM : Mv w vb v' := fun k hk => .inr (hM k hk)
  have hK : Keep (g :: vb.ownBlock.toList) w w' := hK.mono (by simp)
  exact ⟨rfl, FopTo.row hS (hF.rowB (s' := { s with byp := l }) hB hK hM hQ rfl rfl rfl) (hK.mono own_b) Mv.rfl Mv.rfl Mv.rfl hM⟩
set_option maxHeartbeats 1000000 in
set_option maxRecDepth 100000 in
theorem again_in (s : Fs) (g : Nat) (S : List Nat) (w : World) (h : FopIn w g S s) : Calls Try.prog 35 #[.pointer (some ⟨g, 0, none⟩)] w fun x w' => x = .returned (.tuple #[]) ∧ FopTo w w' g S { s with tries := 1, clock := s.timeout } := by
  have HT := Lib.hid (Pt.refl h)
  clear h
  obtain ⟨ve, vw, vs, vb, hF, hS⟩ := HT.out.in_
  have HF := Lib.hid hF; have HS := Lib.hid hS; have HB := Lib.hid hF.blk; clear hF hS
  have c5 := HB.out.cell 5
  have c10 := HB.out.cell 10
  have c11 := HB.out.cell 11
  have f10 := HB.out.free 10
  have f11 := HB.out.free 11
  simp only [Fs.cells, List.getElem?_cons_zero, List.getElem?_cons_succ] at c5 c10 c11
  go_enter Try.func35, Try.ntmps35
  go_wp2_with fail
  go_end0
  exact ⟨rfl, (HT.out.upd (s' := { s with tries := 1, clock := s.timeout }) HF.out HS.out ((HB.out.set 10 _).set 11 _) (((Keep.refl _ _).setCell (.inl (by simp)) _).setCell (.inl (by simp)) _) rfl rfl rfl rfl).to⟩
end Go.Proofs.Ytbncejmohhejlaa
