/- What is proved here: lists of gaps; walks of the functions that look at them. -/
import Derived.Test.YtkpgenmlpkfokaaN2
import Derived.Laws.StructEq
set_option linter.unusedVariables false
set_option linter.unusedSimpArgs false
namespace Go.Proofs.Ytkpgenmlpkfokaa
open Go.RowKit
abbrev Gp := Int × Int
/-- A slice of gaps reads as a list. -/
def GapsAt (w : World) (v : Value) (l : List Gp) : Prop := ∃ a cap, v = .slice a l.length cap ∧ ∀ i (h : i < l.length), ∃ b off, a = some ⟨b, off, none⟩ ∧ b < w.heap.size ∧
  w.cell? ⟨b, off + i * 2, none⟩ = some (.int .i64 (l[i]).1) ∧ w.cell? ⟨b, off + i * 2 + 1, none⟩ = some (.int .i64 (l[i]).2)
theorem GapsAt.below {w w' : World} {v : Value} {l : List Gp} {B : Nat} (h : GapsAt w v l) (k : Below B w w') (hB : w.heap.size ≤ B) : GapsAt w' v l := by
  obtain ⟨a, cap, rfl, h⟩ := h
  refine ⟨a, cap, rfl, fun i hi => ?_⟩
  obtain ⟨b, off, ha, hb, h1, h2⟩ := h i hi
  exact ⟨b, off, ha, Nat.lt_of_lt_of_le hb k.size, (k.cell (p := ⟨b, off + i * 2, none⟩) (Nat.lt_of_lt_of_le hb hB)).trans h1, (k.cell (p := ⟨b, off + i * 2 + 1, none⟩) (Nat.lt_of_lt_of_le hb hB)).trans h2⟩
theorem GapsAt.nil (w : World) : GapsAt w (.slice none 0 0) [] := ⟨none, 0, rfl, fun i h => by simp at h⟩
/-- Gaps in order, behind a number. -/
def okGaps : Int → List Gp → Bool
  | _, [] => true
  | last, g :: l => decide (last < g.1 ∧ g.1 < g.2 ∧ g.2 ≤ 65535) && okGaps g.2 l
def orderlyL (l : List Gp) : Bool := okGaps (-1) l && decide (l.length ≤ 20)
theorem neqGap (a b c d : Int) (w : World) : (binOp .neq 47 (.agg #[.int .i64 a, .int .i64 b]) (.agg #[.int .i64 c, .int .i64 d])).run Try.prog w = .ok (.bool (!((a, b) == (c, d)))) w := by
  have u3 := Try.underlying3
  have hS : Try.prog.underlying 47 = some (.struct (Try.prog.fieldsOf 47)) := by kernel_rfl
  have hp : Try.prog.stoodInHeld 47 = false := by kernel_rfl
  have a3 := Try.isAgg3
  have z3 := Try.sizeOf3
  rw [run_neq_struct, show (10000 : Nat) = 9999 + 1 from rfl, run_equalIn_agg w 9999 47 _ _ hS hp]
  simp only [Program.fieldsOf, Try.underlying47]
  go_simp
  by_cases h1 : a = c <;> by_cases h2 : b = d <;> simp [h1, h2]
theorem eqlGap (a b c d : Int) (w : World) : (binOp .eql 47 (.agg #[.int .i64 a, .int .i64 b]) (.agg #[.int .i64 c, .int .i64 d])).run Try.prog w = .ok (.bool ((a, b) == (c, d))) w := by
  have u3 := Try.underlying3
  have hS : Try.prog.underlying 47 = some (.struct (Try.prog.fieldsOf 47)) := by kernel_rfl
  have hp : Try.prog.stoodInHeld 47 = false := by kernel_rfl
  have a3 := Try.isAgg3
  have z3 := Try.sizeOf3
  rw [run_eql_struct, show (10000 : Nat) = 9999 + 1 from rfl, run_equalIn_agg w 9999 47 _ _ hS hp]
  simp only [Program.fieldsOf, Try.underlying47]
  go_simp
  by_cases h1 : a = c <;> by_cases h2 : b = d <;> simp [h1, h2]
theorem guardGap : Try.prog.eqGuardType Try.prog.depth 47 = false := by kernel_rfl
set_option maxHeartbeats 4000000 in
set_option maxRecDepth 100000 in
theorem orderly_any (v : Value) (l : List Gp) (w : World) (hl : l.length ≤ 1000000) (hG : GapsAt w v l) :
    Calls Try.prog 59 #[v] w fun e w' => e = .returned (.bool (orderlyL l)) ∧ Below w.heap.size w w' := by
  obtain ⟨a, cap, rfl, hG⟩ := hG
  have HG := Lib.hid hG
  clear hG
  go_enter Try.func59, Try.ntmps59
  go_wp2_with fail
  go_loopw [3, 8] (fun lv iv wr => ∃ (k : Nat) (last : Int), k ≤ l.length ∧ iv = .int .i64 k ∧ lv = .int .i64 last ∧ Hid (okGaps (-1) l = okGaps last (l.drop k)) ∧ Below w.heap.size w wr) (fun _ i _ => l.length - (intOf i).toNat)
  case atStart => exact ⟨0, -1, by omega, rfl, rfl, Lib.hid rfl, Below.refl _ _⟩
  case round =>
    obtain ⟨k, last, hk, rfl, rfl, ho, hL⟩ := hrel
    have HL := Lib.hid hL; clear hL
    by_cases hlt : k < l.length
    · obtain ⟨b, off, rfl, hb, c0, c1⟩ := HG.out k hlt
      have d0 := (HL.out.cell (p := ⟨b, off + k * 2, none⟩) hb).trans c0
      have d1 := (HL.out.cell (p := ⟨b, off + k * 2 + 1, none⟩) hb).trans c1
      have HO := ho.out
      rw [List.drop_eq_getElem_cons hlt] at HO
      obtain ⟨g, hg⟩ : ∃ g, g = l[k] := ⟨_, rfl⟩
      rw [← hg] at HO d0 d1
      obtain ⟨x, y⟩ := g
      have HO := Lib.hid HO
      clear hg c0 c1 ho
      by_cases h1 : last < x
      case neg =>
        have HF := Lib.hid (show orderlyL l = false by rw [orderlyL, HO.out, okGaps]; simp [h1])
        go_wp2_with fail
        go_ret
        exact ⟨by rw [HF.out]; rfl, HL.out.alloc HL.out.size _⟩
      by_cases h2 : x < y
      case neg =>
        have HF := Lib.hid (show orderlyL l = false by rw [orderlyL, HO.out, okGaps]; simp [h2])
        go_wp2_with fail
        go_ret
        exact ⟨by rw [HF.out]; rfl, HL.out.alloc HL.out.size _⟩
      by_cases h3 : y ≤ 65535
      case neg =>
        have HF := Lib.hid (show orderlyL l = false by rw [orderlyL, HO.out, okGaps]; simp [h3])
        go_wp2_with fail
        go_ret
        exact ⟨by rw [HF.out]; rfl, HL.out.alloc HL.out.size _⟩
      have HF := Lib.hid (show okGaps (-1) l = okGaps y (l.drop (k + 1)) by rw [HO.out, okGaps]; simp [h1, h2, h3])
      go_wp2_with fail
      go_roundw
      case rel => exact ⟨k + 1, y, by omega, by go_num, rfl, HF, HL.out.alloc HL.out.size _⟩
      case measure => simp [intOf]; omega
    · obtain rfl : k = l.length := by omega
      go_wp2_with fail
      go_ret
      refine ⟨?_, HL.out⟩
      have := ho.out
      rw [orderlyL, this, List.drop_length, okGaps]
      simp
      omega
theorem okGaps_step (l : List Gp) (last : Int) (k : Nat) (h : k < l.length) (ho : okGaps (-1) l = okGaps last (l.drop k)) : okGaps (-1) l = (decide (last < l[k].1 ∧ l[k].1 < l[k].2 ∧ l[k].2 ≤ 65535) && okGaps l[k].2 (l.drop (k + 1))) := by
  rw [ho, List.drop_eq_getElem_cons h, okGaps]
set_option maxHeartbeats 4000000 in
set_option maxRecDepth 100000 in
theorem vgaps_any (v : Value) (l : List Gp) (w : World) (hl : l.length ≤ 1000000) (hG : GapsAt w v l) :
    Calls Try.prog 32 #[v] w fun e w' => e = .returned (.bool (orderlyL l)) ∧ Below w.heap.size w w' := by
  obtain ⟨a, cap, rfl, hG⟩ := hG
  have HG := Lib.hid hG
  clear hG
  go_enter Try.func32, Try.ntmps32
  go_wp2_with fail
  go_loopw [3] (fun iv wr => ∃ (k : Nat) (last : Int), k ≤ l.length ∧ iv = .int .i64 k ∧ -1 ≤ last ∧ (k = 0 → last = -1) ∧ (∀ h : 0 < k, ∃ h2 : k - 1 < l.length, last = (l[k - 1]).2) ∧ Hid (okGaps (-1) l = okGaps last (l.drop k)) ∧ Below w.heap.size w wr) (fun iv _ => l.length - (intOf iv).toNat)
  case atStart => exact ⟨0, -1, by omega, rfl, by omega, fun _ => rfl, fun h => absurd h (by omega), Lib.hid rfl, Below.refl _ _⟩
  case round =>
    obtain ⟨k, last, hk, rfl, hl1, hl2, hl3, ho, hL⟩ := hrel
    have HL := Lib.hid hL; clear hL
    by_cases hlt : k < l.length
    · obtain ⟨b, off, rfl, hb, c0, c1⟩ := HG.out k hlt
      have d0 := (HL.out.cell (p := ⟨b, off + k * 2, none⟩) hb).trans c0
      have d1 := (HL.out.cell (p := ⟨b, off + k * 2 + 1, none⟩) hb).trans c1
      have HO := Lib.hid (okGaps_step l last k hlt ho.out)
      obtain ⟨x, hx⟩ : ∃ x, x = (l[k]).1 := ⟨_, rfl⟩
      obtain ⟨y, hy⟩ : ∃ y, y = (l[k]).2 := ⟨_, rfl⟩
      rw [← hx, ← hy] at HO
      rw [← hx] at d0
      rw [← hy] at d1
      have HY := Lib.hid hy
      clear c0 c1 ho hx hy
      have hkl : (k : Int) < (l.length : Int) := by omega
      have hk0 : (0 : Int) ≤ (k : Int) := by omega
      by_cases h0 : x < 0
      · have e0 : decide (x < 0) = true := decide_eq_true h0
        have HF := Lib.hid (show orderlyL l = false by rw [orderlyL, HO.out, decide_eq_false (by omega : ¬ (last < x ∧ x < y ∧ y ≤ 65535))]; rfl)
        clear hl2 hl3
        go_upto_region 4 with fail
        go_quiet (fail)
        go_wp2_with fail
        go_ret
        exact ⟨by rw [HF.out]; rfl, HL.out.trans ((below_quiet _ _).1.mono HL.out.size)⟩
      have e0 : decide (x < 0) = false := decide_eq_false h0
      by_cases h1 : y ≤ x
      · have e1 : decide (y ≤ x) = true := decide_eq_true h1
        have HF := Lib.hid (show orderlyL l = false by rw [orderlyL, HO.out, decide_eq_false (by omega : ¬ (last < x ∧ x < y ∧ y ≤ 65535))]; rfl)
        clear hl2 hl3
        go_upto_region 4 with fail
        go_quiet (fail)
        go_wp2_with fail
        go_ret
        exact ⟨by rw [HF.out]; rfl, HL.out.trans ((below_quiet _ _).1.mono HL.out.size)⟩
      have e1 : decide (y ≤ x) = false := decide_eq_false h1
      by_cases h2 : 65535 < y
      · have e2 : decide (65535 < y) = true := decide_eq_true h2
        have HF := Lib.hid (show orderlyL l = false by rw [orderlyL, HO.out, decide_eq_false (by omega : ¬ (last < x ∧ x < y ∧ y ≤ 65535))]; rfl)
        clear hl2 hl3
        go_upto_region 4 with fail
        go_quiet (fail)
        go_wp2_with fail
        go_ret
        exact ⟨by rw [HF.out]; rfl, HL.out.trans ((below_quiet _ _).1.mono HL.out.size)⟩
      have e2 : decide (65535 < y) = false := decide_eq_false h2
      have HY1 : -1 ≤ y := by omega
      by_cases h3 : k = 0
      · have HF := Lib.hid (show okGaps (-1) l = okGaps y (l.drop (k + 1)) by
          have := hl2 h3
          rw [HO.out, decide_eq_true (by omega : last < x ∧ x < y ∧ y ≤ 65535)]; rfl)
        have e3 : decide (0 < k) = false := decide_eq_false (by omega)
        clear hl2 hl3 h3
        go_upto_region 4 with fail
        go_quiet (fail)
        go_wp2_with fail
        go_roundw
        case rel => exact ⟨k + 1, y, by omega, by go_num, HY1, fun h => absurd h (by omega), fun h => ⟨hlt, HY.out⟩, HF, HL.out.trans ((below_quiet _ _).1.mono HL.out.size)⟩
        case measure => simp [intOf]; omega
      have e3 : decide (0 < k) = true := decide_eq_true (by omega)
      obtain ⟨hk2, hla⟩ := hl3 (by omega)
      obtain ⟨b', off', e', hb', c0', c1'⟩ := HG.out (k - 1) hk2
      injection e' with e'; injection e' with e1' e2'
      subst e1' e2'
      have d2 := (HL.out.cell (p := ⟨b, off + (k - 1) * 2 + 1, none⟩) hb).trans c1'
      rw [← hla] at d2
      obtain ⟨j, hj⟩ : ∃ j, j = k - 1 := ⟨_, rfl⟩
      rw [← hj] at d2
      have hk1 : IntKind.i64.wrap ((k : Int) - 1) = (j : Int) := by rw [IntWalk.i64_in _ (by omega)]; omega
      have hkm : (j : Int) < (l.length : Int) := by omega
      have hkm0 : (0 : Int) ≤ (j : Int) := by omega
      clear hl2 hl3 hla c0' c1' hb' h3 hj
      by_cases h4 : x ≤ last
      · have e4 : decide (x ≤ last) = true := decide_eq_true h4
        have HF := Lib.hid (show orderlyL l = false by rw [orderlyL, HO.out, decide_eq_false (by omega : ¬ (last < x ∧ x < y ∧ y ≤ 65535))]; rfl)
        go_upto_region 4 with fail
        go_quiet (fail)
        go_wp2_with fail
        go_ret
        exact ⟨by rw [HF.out]; rfl, HL.out.trans ((below_quiet _ _).1.mono HL.out.size)⟩
      have e4 : decide (x ≤ last) = false := decide_eq_false h4
      have HF := Lib.hid (show okGaps (-1) l = okGaps y (l.drop (k + 1)) by
        rw [HO.out, decide_eq_true (by omega : last < x ∧ x < y ∧ y ≤ 65535)]; rfl)
      go_upto_region 4 with fail
      go_quiet (fail)
      go_wp2_with fail
      go_roundw
      case rel => exact ⟨k + 1, y, by omega, by go_num, HY1, fun h => absurd h (by omega), fun h => ⟨hlt, HY.out⟩, HF, HL.out.trans ((below_quiet _ _).1.mono HL.out.size)⟩
      case measure => simp [intOf]; omega
    · obtain rfl : k = l.length := by omega
      clear hl2 hl3
      go_wp2_with fail
      go_ret
      refine ⟨?_, HL.out⟩
      have := ho.out
      rw [orderlyL, this, List.drop_length, okGaps]
      simp
      omega
theorem take_eq_step {α : Type} (l m : List α) (k : Nat) (h1 : k < l.length) (h2 : k < m.length) (h : l.take k = m.take k) (e : l[k] = m[k]) : l.take (k + 1) = m.take (k + 1) := by
  rw [List.take_succ_eq_append_getElem h1, List.take_succ_eq_append_getElem h2, h, e]
set_option maxHeartbeats 4000000 in
set_option maxRecDepth 100000 in
theorem EqualG_any (v u : Value) (l m : List Gp) (w : World) (hl : l.length ≤ 1000000) (hm : m.length ≤ 1000000) (hG : GapsAt w v l) (hM : GapsAt w u m) :
    Calls Try.prog 67 #[v, u] w fun e w' => e = .returned (.bool (decide (l = m))) ∧ Below w.heap.size w w' := by
  obtain ⟨a, cap, rfl, hG⟩ := hG
  obtain ⟨c, cap2, rfl, hM⟩ := hM
  have HG := Lib.hid hG
  have HM := Lib.hid hM
  have HNQ := Lib.hid neqGap
  have hgd := guardGap
  clear hG hM
  by_cases hlm : l.length = m.length
  case neg =>
    have d0 : ((l.length : Int) != (m.length : Int)) = true := by rw [bne_iff_ne]; omega
    have HF := Lib.hid (show decide (l = m) = false from decide_eq_false (fun e => hlm (by rw [e])))
    clear hlm
    go_enter Try.func67, Try.ntmps67
    go_wp2_with fail
    go_ret
    exact ⟨by rw [HF.out]; rfl, Below.refl _ _⟩
  have d0 : ((l.length : Int) != (m.length : Int)) = false := by rw [hlm]; simp
  have hle : l.length ≤ m.length := by omega
  have HLM := Lib.hid hlm
  clear hlm
  go_enter Try.func67, Try.ntmps67
  go_wp2_with fail
  go_loopw [13] (fun iv wr => ∃ k : Nat, k ≤ l.length ∧ iv = .int .i64 k ∧ Hid (l.take k = m.take k) ∧ Below w.heap.size w wr) (fun iv _ => l.length - (intOf iv).toNat)
  case atStart => exact ⟨0, by omega, rfl, Lib.hid rfl, Below.refl _ _⟩
  case round =>
    obtain ⟨k, hk, rfl, hT, hL⟩ := hrel
    have HL := Lib.hid hL; clear hL
    by_cases hlt : k < l.length
    · obtain ⟨b, off, rfl, hb, c0, c1⟩ := HG.out k hlt
      have hltm : k < m.length := by omega
      obtain ⟨b', off', rfl, hb', c2, c3⟩ := HM.out k hltm
      have d0 := (HL.out.cell (p := ⟨b, off + k * 2, none⟩) hb).trans c0
      have d1 := (HL.out.cell (p := ⟨b, off + k * 2 + 1, none⟩) hb).trans c1
      have d2 := (HL.out.cell (p := ⟨b', off' + k * 2, none⟩) hb').trans c2
      have d3 := (HL.out.cell (p := ⟨b', off' + k * 2 + 1, none⟩) hb').trans c3
      have hnq := fun W => HNQ.out (l[k]).1 (l[k]).2 (m[k]).1 (m[k]).2 W
      have HST := Lib.hid (fun e : l[k] = m[k] => take_eq_step l m k hlt hltm hT.out e)
      obtain ⟨g, hg⟩ : ∃ g, g = l[k] := ⟨_, rfl⟩
      obtain ⟨f, hf⟩ : ∃ f, f = m[k] := ⟨_, rfl⟩
      rw [← hg] at d0 d1 hnq HST
      rw [← hf] at d2 d3 hnq HST
      have Hg := Lib.hid hg; have Hf := Lib.hid hf
      obtain ⟨x, y⟩ := g
      obtain ⟨p, q⟩ := f
      simp only at d0 d1 d2 d3 hnq
      have hkl : (k : Int) < (l.length : Int) := by omega
      have hkm : (k : Int) < (m.length : Int) := by omega
      have hk0 : (0 : Int) ≤ (k : Int) := by omega
      clear c0 c1 c2 c3 hg hf
      by_cases he : (x, y) = (p, q)
      · have e0 : (!((x, y) == (p, q))) = false := by simp [he]
        rw [e0] at hnq
        have HE := Lib.hid he
        clear he e0
        go_upto_region 6 with fail
        go_quiet (fail)
        go_wp2_with fail
        go_roundw
        case rel => exact ⟨k + 1, by omega, by go_num, Lib.hid (HST.out HE.out), HL.out.trans ((below_quiet _ _).1.mono HL.out.size)⟩
        case measure => simp [intOf]; omega
      · have e0 : (!((x, y) == (p, q))) = true := by simpa using he
        rw [e0] at hnq
        have HF := Lib.hid (show decide (l = m) = false from decide_eq_false (fun e => he (by rw [Hg.out, Hf.out]; subst e; rfl)))
        clear he e0
        go_upto_region 6 with fail
        go_quiet (fail)
        go_wp2_with fail
        go_ret
        exact ⟨by rw [HF.out]; rfl, HL.out.trans ((below_quiet _ _).1.mono HL.out.size)⟩
    · obtain rfl : k = l.length := by omega
      go_wp2_with fail
      go_ret
      refine ⟨?_, HL.out⟩
      have := hT.out
      rw [List.take_length, HLM.out, List.take_length] at this
      rw [decide_eq_true this]; rfl
end Go.Proofs.Ytkpgenmlpkfokaa
