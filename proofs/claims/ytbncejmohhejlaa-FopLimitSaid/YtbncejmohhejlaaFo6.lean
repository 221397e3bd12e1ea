/- What is proved here: methods of the automaton on the ground: marks, the beginning, what is sent. No condition. -/
import Derived.Test.YtbncejmohhejlaaFo5
set_option linter.unusedVariables false
set_option linter.unusedSimpArgs false
namespace Go.Proofs.Ytbncejmohhejlaa
open Go.RowKit
def Ut.on (u : Ut) : Ut := ⟨u.id, u.data, true⟩
def Ut.off (u : Ut) : Ut := ⟨u.id, u.data, false⟩
theorem utRow_len : ∀ l : List Ut, (utRow l).length = l.length * 3
  | [] => rfl
  | u :: l => by
    have := utRow_len l
    simp only [utRow, List.flatMap_cons, List.length_append, List.length_cons] at this ⊢
    simp only [Ut.cells, List.length_cons, List.length_nil]
    omega
theorem utRow_at : ∀ (l : List Ut) (k : Nat) (h : k < l.length), (utRow l)[k * 3]? = some (.int .i64 l[k].id) ∧ (utRow l)[k * 3 + 1]? = some (.string l[k].data) ∧ (utRow l)[k * 3 + 2]? = some (.bool l[k].mark)
  | [], k, h => by simp at h
  | u :: l, 0, _ => ⟨rfl, rfl, rfl⟩
  | u :: l, k + 1, h => by
    obtain ⟨h1, h2, h3⟩ := utRow_at l k (by simpa using h)
    have e1 : (k + 1) * 3 = k * 3 + 3 := by omega
    have hu : ∀ j, (utRow (u :: l))[j + 3]? = (utRow l)[j]? := fun j => by
      show (u.cells ++ utRow l)[j + 3]? = _
      rw [List.getElem?_append_right (by simp [Ut.cells])]
      simp [Ut.cells]
    refine ⟨?_, ?_, ?_⟩
    · rw [e1, hu]; exact h1
    · rw [e1, show k * 3 + 3 + 1 = (k * 3 + 1) + 3 by omega, hu]; exact h2
    · rw [e1, show k * 3 + 3 + 2 = (k * 3 + 2) + 3 by omega, hu]; exact h3
theorem utRow_set : ∀ (l : List Ut) (k : Nat) (h : k < l.length) (b : Bool), (utRow l).set (k * 3 + 2) (.bool b) = utRow (l.set k ⟨l[k].id, l[k].data, b⟩)
  | [], k, h, _ => by simp at h
  | u :: l, 0, _, b => rfl
  | u :: l, k + 1, h, b => by
    have ih := utRow_set l k (by simpa using h) b
    have e1 : (k + 1) * 3 + 2 = (k * 3 + 2) + 3 := by omega
    show (u.cells ++ utRow l).set _ _ = u.cells ++ utRow (l.set k _)
    rw [e1, List.set_append_right _ _ (by simp [Ut.cells]), show k * 3 + 2 + 3 - u.cells.length = k * 3 + 2 by simp [Ut.cells], ih]
    simp
theorem q_setIn {w : World} {base : Nat} {e : TypeId} {sz q off n cap : Nat} {xs : List Value} (h : QRow w base e sz (.slice (some ⟨q, off, none⟩) n cap) n xs) (j : Nat) (hj : j < n * sz) (u : Value) :
    QRow (w.setCell ⟨q, off + j, none⟩ u) base e sz (.slice (some ⟨q, off, none⟩) n cap) n (xs.set j u) := by
  obtain ⟨h1, h2, h3⟩ := h
  refine ⟨by simpa using h1, h2, ?_⟩
  rcases h3 with ⟨hv, _⟩ | ⟨g, o, c, cur, hv, hb, hg, a1, a2, a3, a4⟩
  · cases hv
  · injection hv with e1 e2 e3; injection e1 with e1; injection e1 with e1 e4
    subst e1 e3 e4
    refine .inr ⟨q, off, cap, cur.setIfInBounds (off + j) u, rfl, hb, ?_, a1, a2, by simpa using a3, ?_⟩
    · simp [World.setCell, Array.getElem?_modify, hg]
    · rw [Array.toList_setIfInBounds, List.drop_set, if_neg (by omega), List.take_set, a4]
      congr 1
      omega
/-- A unit of those that were sent is marked, or not any more. -/
theorem Pt.mark {w W : World} {g : Nat} {S S1 : List Nat} {s : Fs} {ve vw vb : Value} {q off cap : Nat} (hT : Pt w W g S S1 s) (h : FopAt W g s ve vw (.slice (some ⟨q, off, none⟩) s.sent.length cap) vb) (hS : ∀ k ∈ own g ve vw (.slice (some ⟨q, off, none⟩) s.sent.length cap) vb, k ∈ S1) (k : Nat) (hk : k < s.sent.length) (b : Bool) :
    Pt w (W.setCell ⟨q, off + (k * 3 + 2), none⟩ (.bool b)) g S S1 { s with sent := s.sent.set k ⟨s.sent[k].id, s.sent[k].data, b⟩ } ∧ FopAt (W.setCell ⟨q, off + (k * 3 + 2), none⟩ (.bool b)) g { s with sent := s.sent.set k ⟨s.sent[k].id, s.sent[k].data, b⟩ } ve vw (.slice (some ⟨q, off, none⟩) s.sent.length cap) vb := by
  have hgq : g ≠ q := fun e => h.gs (by rw [e]; rfl)
  have hq : (Value.slice (some ⟨q, off, none⟩) s.sent.length cap).ownBlock = some q := rfl
  have hF : FopAt (W.setCell ⟨q, off + (k * 3 + 2), none⟩ (.bool b)) g { s with sent := s.sent.set k ⟨s.sent[k].id, s.sent[k].data, b⟩ } ve vw (.slice (some ⟨q, off, none⟩) s.sent.length cap) vb := by
    refine ⟨?_, q_set h.ev (fun e => h.es q e hq) _, q_set h.wa (fun e => h.ws q e hq) _, ?_, q_set h.bp (fun e => h.sb q hq e) _, h.ge, h.gw, h.gs, h.gb, h.ew, h.es, h.eb, h.ws, h.wb, h.sb⟩
    · exact h.blk.set_far hgq _
    · have := q_setIn h.se (k * 3 + 2) (by omega) (.bool b)
      rw [utRow_set s.sent k hk b] at this
      simpa using this
  refine ⟨⟨⟨_, _, _, _, hF, hS⟩, hT.keep.setCell (p := ⟨q, off + (k * 3 + 2), none⟩) (hT.new q (hS q (mem_own.2 (.inr (.inr (.inr (.inl hq))))))) _, hT.new⟩, hF⟩
def markK (l : List Ut) (k : Nat) : List Ut := (l.take k).map Ut.on ++ l.drop k
theorem markK_len (l : List Ut) (k : Nat) : (markK l k).length = l.length := by simp [markK]; omega
theorem markK_at (l : List Ut) (k : Nat) (h : k < l.length) : (markK l k)[k]? = some l[k] := by
  unfold markK
  rw [List.getElem?_append_right (by simp; omega)]
  simp only [List.length_map, List.length_take]
  rw [Nat.min_eq_left (by omega), Nat.sub_self, List.getElem?_drop, Nat.add_zero, List.getElem?_eq_getElem h]
theorem markK_set (l : List Ut) (k : Nat) (h : k < l.length) : (markK l k).set k l[k].on = markK l (k + 1) := by
  unfold markK
  rw [List.set_append_right _ _ (by simp; omega)]
  simp only [List.length_map, List.length_take]
  rw [Nat.min_eq_left (by omega), Nat.sub_self, List.drop_eq_getElem_cons h, List.set_cons_zero, List.take_succ_eq_append_getElem h, List.map_append, List.append_assoc]
  rfl
theorem markK_all (l : List Ut) : markK l l.length = l.map Ut.on := by simp [markK]
def markF (s : Fs) : Fs := { s with sent := s.sent.map Ut.on }
set_option maxHeartbeats 2000000 in
set_option maxRecDepth 100000 in
theorem mark_in (s : Fs) (g : Nat) (S : List Nat) (w : World) (hn : s.sent.length ≤ 1000000) (h : FopIn w g S s) : Calls Try.prog 50 #[.pointer (some ⟨g, 0, none⟩)] w fun x w' => x = .returned (.tuple #[]) ∧ FopTo w w' g S (markF s) := by
  obtain ⟨ve, vw, vs, vb, hF, hS⟩ := h
  obtain ⟨a, c, hv⟩ := qform hF.se
  subst hv
  have HT := Lib.hid (Pt.refl ⟨ve, vw, _, vb, hF, hS⟩)
  have HS := Lib.hid hS
  have HF := Lib.hid (show FopAt w g { s with sent := markK s.sent 0 } ve vw (.slice a s.sent.length c) vb from hF)
  have HT := Lib.hid (show Pt w w g S S { s with sent := markK s.sent 0 } from HT.out)
  have c14 := hF.blk.cell 14
  simp only [Fs.cells, List.getElem?_cons_zero, List.getElem?_cons_succ] at c14
  clear hF hS
  go_enter Try.func50, Try.ntmps50
  go_wp2_with fail
  clear c14
  go_loopw [9] (fun iv wr => ∃ k : Nat, k ≤ s.sent.length ∧ iv = .int .i64 k ∧ FopAt wr g { s with sent := markK s.sent k } ve vw (.slice a s.sent.length c) vb ∧ Pt w wr g S S { s with sent := markK s.sent k }) (fun iv _ => s.sent.length - (intOf iv).toNat)
  case atStart => exact ⟨0, Nat.zero_le _, rfl, HF.out, HT.out⟩
  case round =>
    obtain ⟨k, hk, rfl, hF, hT⟩ := hrel
    by_cases hlt : k < s.sent.length
    · have c14 := hF.blk.cell 14
      simp only [Fs.cells, List.getElem?_cons_zero, List.getElem?_cons_succ] at c14
      have hlen := markK_len s.sent k
      obtain ⟨q, off, cap, hve, -, hqw, hcap, hcl, hfr⟩ := q_cells hF.se (show 0 < (markK s.sent k).length by omega)
      injection hve with e1 e2 e3
      clear e2
      subst e1 e3
      have hFq : FopAt wr g { s with sent := markK s.sent k } ve vw (.slice (some ⟨q, off, none⟩) (markK s.sent k).length c) vb := by rw [hlen]; exact hF
      have hSq : ∀ i ∈ own g ve vw (.slice (some ⟨q, off, none⟩) (markK s.sent k).length c) vb, i ∈ S := by rw [hlen]; exact HS.out
      have hm := hT.mark hFq hSq k (show k < (markK s.sent k).length by omega) true
      have hkk : (markK s.sent k)[k]'(by omega) = s.sent[k] := by
        have := markK_at s.sent k hlt
        rw [List.getElem?_eq_getElem (by omega)] at this
        exact Option.some.inj this
      have hst : (markK s.sent k).set k ⟨((markK s.sent k)[k]'(by omega)).id, ((markK s.sent k)[k]'(by omega)).data, true⟩ = markK s.sent (k + 1) := by
        rw [hkk]; exact markK_set s.sent k hlt
      simp only [hst, hlen] at hm
      obtain ⟨bm, e0⟩ : ∃ bm, wr.cell? ⟨q, off + (k * 3 + 2), none⟩ = some (.bool bm) := ⟨_, hcl _ _ (utRow_at (markK s.sent k) k (by omega)).2.2⟩
      have e1 : wr.frozen? ⟨q, off + (k * 3 + 2), none⟩ = false := hfr _
      have HM := Lib.hid hm
      rw [← Nat.add_assoc] at e0 e1
      clear hm hst hkk hSq hFq hcl hfr hF hT hlen
      go_wp2_with fail
      go_roundw
      case rel => exact ⟨k + 1, by omega, by go_num, HM.out.2, HM.out.1⟩
      case measure => simp [intOf]; omega
    · obtain rfl : k = s.sent.length := by omega
      have HT := Lib.hid hT
      clear hF hT
      go_wp2_with fail
      go_end0
      have := HT.out
      rw [markK_all] at this
      exact ⟨rfl, this.to⟩
end Go.Proofs.Ytbncejmohhejlaa
