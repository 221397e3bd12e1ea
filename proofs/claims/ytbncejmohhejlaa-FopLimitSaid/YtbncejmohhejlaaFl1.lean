/- What is proved here: two rows of one event each are the same; the states that the law about the limit comes to. -/
import Derived.Test.YtbncejmohhejlaaFo15
set_option linter.unusedVariables false
set_option linter.unusedSimpArgs false
namespace Go.Proofs.Ytbncejmohhejlaa
open Go.RowKit
set_option maxHeartbeats 2000000 in
set_option maxRecDepth 100000 in
theorem same_one (x y z : Int) (pb po qb qo c1 c2 : Nat) (w : World) (a0 : w.cell? ⟨pb, po, none⟩ = some (.int .i64 x)) (a1 : w.cell? ⟨pb, po + 1, none⟩ = some (.int .i64 y)) (a2 : w.cell? ⟨pb, po + 2, none⟩ = some (.int .i64 z))
    (b0 : w.cell? ⟨qb, qo, none⟩ = some (.int .i64 x)) (b1 : w.cell? ⟨qb, qo + 1, none⟩ = some (.int .i64 y)) (b2 : w.cell? ⟨qb, qo + 2, none⟩ = some (.int .i64 z)) :
    Calls Try.prog 17 #[.slice (some ⟨pb, po, none⟩) 1 c1, .slice (some ⟨qb, qo, none⟩) 1 c2] w fun e w' => e = .returned (.bool true) ∧ Below w.heap.size w w' := by
  go_enter Try.func17, Try.ntmps17
  go_wp2_with fail
  go_loopw [5] (fun iv wr => ∃ k : Nat, k ≤ 1 ∧ iv = .int .i64 k ∧ Below w.heap.size w wr) (fun iv _ => 1 - (intOf iv).toNat)
  case atStart => exact ⟨0, by omega, rfl, Below.refl _ _⟩
  case round =>
    obtain ⟨k, hk, rfl, hL⟩ := hrel
    by_cases hlt : k < 1
    · obtain rfl : k = 0 := by omega
      have d0 := (hL.cell (p := ⟨pb, po, none⟩) (World.block_lt_of_cell? _ _ a0)).trans a0
      have d1 := (hL.cell (p := ⟨pb, po + 1, none⟩) (World.block_lt_of_cell? _ _ a1)).trans a1
      have d2 := (hL.cell (p := ⟨pb, po + 2, none⟩) (World.block_lt_of_cell? _ _ a2)).trans a2
      have f0 := (hL.cell (p := ⟨qb, qo, none⟩) (World.block_lt_of_cell? _ _ b0)).trans b0
      have f1 := (hL.cell (p := ⟨qb, qo + 1, none⟩) (World.block_lt_of_cell? _ _ b1)).trans b1
      have f2 := (hL.cell (p := ⟨qb, qo + 2, none⟩) (World.block_lt_of_cell? _ _ b2)).trans b2
      have HL := Lib.hid hL; clear hL a0 a1 a2 b0 b1 b2
      go_upto_region 6 with fail
      go_quiet (fail)
      refine post_any (fun W => Below w.heap.size w W) (HL.out.trans ((below_quiet wr _).1.mono HL.out.size)) ?_
      clear HL d0 d1 d2 f0 f1 f2
      rintro w2 hL
      have HL := Lib.hid hL; clear hL
      go_wp2_with fail
      go_roundw
      case rel => exact ⟨1, by omega, by go_num, HL.out⟩
      case measure => simp [intOf]
    · obtain rfl : k = 1 := by omega
      have HL := Lib.hid hL; clear hL
      go_wp2_with fail
      go_ret
      exact ⟨rfl, HL.out⟩
def unitN (i : Nat) : Ut := ⟨(i : Int) + 1, ⟨#[UInt8.ofNat i]⟩, false⟩
def unitsN (n : Nat) : List Ut := (List.range n).map unitN
theorem unitsN_len (n : Nat) : (unitsN n).length = n := by simp [unitsN]
theorem unitsN_at (n i : Nat) (h : i < (unitsN n).length) : (unitsN n)[i] = unitN i := by simp [unitsN]
theorem unitsN_succ (n : Nat) : unitsN (n + 1) = unitsN n ++ [unitN n] := by simp [unitsN, List.range_succ]
theorem unitsN_off (n : Nat) : ∀ u ∈ unitsN n, u.mark = false := by
  intro u hu
  obtain ⟨i, _, rfl⟩ := List.mem_map.1 hu
  rfl
/-- The state of round r, behind i frames; b: the service as it began; u units, m of them within the window. -/
def stR (b : Fs) (u m r i : Nat) : Fs :=
  { b with last := u, tries := r, clock := b.timeout, sent := if r = 1 then (unitsN u).take i else (unitsN u).take i ++ (((unitsN u).take m).drop i).map Ut.on, waiting := if r = 1 then (unitsN u).drop i else (unitsN u).drop m }
theorem stR_sent1 (b : Fs) (u m i : Nat) : (stR b u m 1 i).sent = (unitsN u).take i := rfl
theorem stR_sent2 (b : Fs) (u m r i : Nat) (hr : r ≠ 1) : (stR b u m r i).sent = (unitsN u).take i ++ (((unitsN u).take m).drop i).map Ut.on := by
  show (if r = 1 then _ else _) = _
  rw [if_neg hr]
theorem stR_first (b : Fs) (u m : Nat) (hb : b.sent = []) (ht : b.tries = 1) (hc : b.clock = b.timeout) : { b with last := u, waiting := unitsN u } = stR b u m 1 0 := by
  unfold stR
  simp only [if_true, List.take_zero, List.drop_zero, ← hb]
  obtain ⟨⟩ := b
  simp_all
theorem stR_new (b : Fs) (u m i : Nat) (h : i < u) : (stR b u m 1 i).waiting = unitN i :: (unitsN u).drop (i + 1) := by
  unfold stR
  simp only [if_true]
  rw [List.drop_eq_getElem_cons (by rw [unitsN_len]; exact h), unitsN_at]
theorem stR_new2 (b : Fs) (u m i : Nat) (h : i < u) : newSent (stR b u m 1 i) (unitN i) ((unitsN u).drop (i + 1)) = stR b u m 1 (i + 1) := by
  have ht : (unitsN u).take (i + 1) = (unitsN u).take i ++ [unitN i] := by
    rw [List.take_succ_eq_append_getElem (by rw [unitsN_len]; exact h), unitsN_at]
  unfold newSent stR
  simp only [if_true, ht]
  split <;> rfl
theorem stR_len (b : Fs) (u m r i : Nat) (hm : m ≤ u) (hi : i ≤ m) (hr : r ≠ 1) : (stR b u m r i).sent.length = m := by
  rw [stR_sent2 b u m r i hr]
  simp [unitsN_len]
  omega
theorem stR_len1 (b : Fs) (u m i : Nat) (hi : i ≤ u) : (stR b u m 1 i).sent.length = i := by
  rw [stR_sent1]
  simp [unitsN_len]
  omega
theorem stR_at (b : Fs) (u m r i : Nat) (hm : m ≤ u) (hi : i < m) (hr : r ≠ 1) : (stR b u m r i).sent[i]'(by rw [stR_len b u m r i hm (by omega) hr]; exact hi) = (unitN i).on := by
  have : (stR b u m r i).sent[i]? = some (unitN i).on := by
    rw [stR_sent2 b u m r i hr, List.getElem?_append_right (by simp [unitsN_len]; omega)]
    have h0 : i - ((unitsN u).take i).length = 0 := by simp [unitsN_len]; omega
    rw [h0, List.getElem?_map, List.getElem?_drop, Nat.add_zero, List.getElem?_take, if_pos hi, List.getElem?_eq_getElem (by rw [unitsN_len]; omega), unitsN_at]
    rfl
  rw [List.getElem?_eq_getElem (by rw [stR_len b u m r i hm (by omega) hr]; exact hi)] at this
  exact Option.some.inj this
theorem stR_before (b : Fs) (u m r i : Nat) (hm : m ≤ u) (hi : i ≤ m) (hr : r ≠ 1) : ∀ k, (h : k < i) → ((stR b u m r i).sent[k]'(by rw [stR_len b u m r i hm hi hr]; omega)).mark = false := by
  intro k h
  have : (stR b u m r i).sent[k]? = some (unitN k) := by
    rw [stR_sent2 b u m r i hr, List.getElem?_append_left (by simp [unitsN_len]; omega)]
    rw [List.getElem?_take, if_pos h, List.getElem?_eq_getElem (by rw [unitsN_len]; omega), unitsN_at]
  rw [List.getElem?_eq_getElem (by rw [stR_len b u m r i hm hi hr]; omega)] at this
  rw [Option.some.inj this]
  rfl
theorem stR_set (b : Fs) (u m r i : Nat) (hm : m ≤ u) (hi : i < m) (hr : r ≠ 1) : { stR b u m r i with sent := (stR b u m r i).sent.set i ⟨(unitN i).on.id, (unitN i).on.data, false⟩ } = stR b u m r (i + 1) := by
  have ht : (unitsN u).take (i + 1) = (unitsN u).take i ++ [unitN i] := by
    rw [List.take_succ_eq_append_getElem (by rw [unitsN_len]; omega), unitsN_at]
  have hd : ((unitsN u).take m).drop i = unitN i :: ((unitsN u).take m).drop (i + 1) := by
    rw [List.drop_eq_getElem_cons (by simp [unitsN_len]; omega)]
    simp [unitsN]
  unfold stR
  simp only [if_neg hr, ht, hd, List.map_cons]
  rw [List.set_append_right _ _ (by simp [unitsN_len]; omega)]
  simp only [List.length_take, unitsN_len, Nat.min_eq_left (show i ≤ u by omega), Nat.sub_self, List.set_cons_zero, List.append_assoc]
  rfl
theorem stR_end (b : Fs) (u m r : Nat) (hm : m ≤ u) : (stR b u m r m).sent = (unitsN u).take m ∧ (stR b u m r m).waiting = (unitsN u).drop m := by
  unfold stR
  split <;> simp
theorem stR_again (b : Fs) (u m r : Nat) (hm : m ≤ u) (hr : 1 ≤ r) (hs : b.service = 2) (ha : b.asked = false) (hd : b.due = false) (c : Int) : againF { stR b u m r m with clock := c } = stR b u m (r + 1) 0 := by
  have h := stR_end b u m r hm
  have e : ({ stR b u m r m with clock := c } : Fs) = { b with last := u, tries := r, clock := c, sent := (unitsN u).take m, waiting := (unitsN u).drop m } := by
    rw [← h.1, ← h.2]
    rfl
  rw [e]
  unfold againF markF stR
  simp only [if_neg (show ¬ r + 1 = 1 by omega), hs, ha, hd, List.take_zero, List.nil_append, List.drop_zero]
  simp
end Go.Proofs.Ytbncejmohhejlaa
