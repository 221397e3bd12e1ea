/- What is proved here: two rows of one event each are the same; the states that the law about the limit comes to. -/
import Derived.Test.YtbncejmohhejlaaFo15
set_option linter.unusedVariables false
set_option linter.unusedSimpArgs false
namespace Go.Proofs.Ytbncejmohhejlaa
open Go.RowKit
section
set_option maxHeartbeats 2000000 in
set_option maxRecDepth 100000 in
theorem same_one (x y z : Int) (pb po qb qo c1 c2 : Nat) (w : World) (a0 : w.cell? ⟨pb, po, none⟩ = some (.int .i64 x)) (a1 : w.cell? ⟨pb, po + 1, none⟩ = some (.int .i64 y)) (a2 : w.cell? ⟨pb, po + 2, none⟩ = some (.int .i64 z))
    (b0 : w.cell? ⟨qb, qo, none⟩ = some (.int .i64 x)) (b1 : w.cell? ⟨qb, qo + 1, none⟩ = some (.int .i64 y)) (b2 : w.cell? ⟨qb, qo + 2, none⟩ = some (.int .i64 z)) :
    Calls Try.prog 17 #[.slice (some ⟨pb, po, none⟩) 1 c1, .slice (some ⟨qb, qo, none⟩) 1 c2] w fun e w' => e = .returned (.bool true) ∧ Below w.heap.size w w' := by
  go_enter Try.func17, Try.ntmps17
  go_wp2_with fail
  go_loopw [5] (fun iv wr => ∃ k : Nat, k ≤ 1 ∧ iv = .int .i64 k ∧ Below w.heap.size w wr) (fun iv _ => 1 - (intOf iv).toNat)
  case atStart => exact ⟨0, by omega, rfl, Below.refl _ _⟩
  case round =>
    obtain ⟨k, hk, rfl, hL⟩ := hrel
    by_cases hlt : k < 1
    · obtain rfl : k = 0 := by omega
      have d0 := (hL.cell (p := ⟨pb, po, none⟩) (World.block_lt_of_cell? _ _ a0)).trans a0
      have d1 := (hL.cell (p := ⟨pb, po + 1, none⟩) (World.block_lt_of_cell? _ _ a1)).trans a1
      have d2 := (hL.cell (p := ⟨pb, po + 2, none⟩) (World.block_lt_of_cell? _ _ a2)).trans a2
      have f0 := (hL.cell (p := ⟨qb, qo, none⟩) (World.block_lt_of_cell? _ _ b0)).trans b0
      have f1 := (hL.cell (p := ⟨qb, qo + 1, none⟩) (World.block_lt_of_cell? _ _ b1)).trans b1
      have f2 := (hL.cell (p := ⟨qb, qo + 2, none⟩) (World.block_lt_of_cell? _ _ b2)).trans b2
      have HL := Lib.hid hL; clear hL a0 a1 a2 b0 b1 b2
      go_upto_region 6 with fail
      go_quiet (fail)
      refine post_any (fun W => Below w.heap.size w W) (HL.out.trans ((below_quiet wr _).1.mono HL.out.size)) ?_
      clear HL d0 d1 d2 f0 f1 f2
      rintro w2 hL
      have HL := Lib.hid hL; clear hL
      go_wp2_with fail
      go_roundw
      case rel => exact ⟨1, by omega, by go_num, HL.out⟩
      case measure => simp [intOf]
    · obtain rfl : k = 1 := by omega
      have HL := Lib.hid hL; clear hL
      go_wp2_with fail
      go_ret
      exact ⟨rfl, HL.out⟩
def unitN (i : Nat) : Ut := ⟨(i : Int) + 1, ⟨#[UInt8.ofNat i]⟩, false⟩
def unitsN (n : Nat) : List Ut := (List.range n).map unitN
theorem unitsN_len (n : Nat) : (unitsN n).length = n := by simp [unitsN]
theorem unitsN_at (n i : Nat) (h : i < (unitsN n).length) : (unitsN n)[i] = unitN i := by simp [unitsN]
theorem unitsN_succ (n : Nat) : unitsN (n + 1) = unitsN n ++ [unitN n] := by simp [unitsN, List.range_succ]
theorem unitsN_off (n : Nat) : ∀ u ∈ unitsN n, u.mark = false := by
  intro u hu
  obtain ⟨i, _, rfl⟩ := List.mem_map.1 hu
  rfl
/-- The state of round r, behind i frames; b: the service as it began; u units, m of them within the window. -/
def stR (b : Fs) (u m r i : Nat) : Fs :=
  { b with last := u, tries := r, clock := b.timeout, sent := if r = 1 then (unitsN u).take i else (unitsN u).take i ++ (((unitsN u).take m).drop i).map Ut.on, waiting := if r = 1 then (unitsN u).drop i else (unitsN u).drop m }
theorem stR_sent1 (b : Fs) (u m i : Nat) : (stR b u m 1 i).sent = (unitsN u).take i := rfl
theorem stR_sent2 (b : Fs) (u m r i : Nat) (hr : r ≠ 1) : (stR b u m r i).sent = (unitsN u).take i ++ (((unitsN u).take m).drop i).map Ut.on := by
  show (if r = 1 then _ else _) = _
  rw [if_neg hr]
theorem stR_first (b : Fs) (u m : Nat) (hb : b.sent = []) (ht : b.tries = 1) (hc : b.clock = b.timeout) : { b with last := u, waiting := unitsN u } = stR b u m 1 0 := by
  unfold stR
  simp only [if_true, List.take_zero, List.drop_zero, ← hb]
  obtain ⟨⟩ := b
  simp_all
theorem stR_new (b : Fs) (u m i : Nat) (h : i < u) : (stR b u m 1 i).waiting = unitN i :: (unitsN u).drop (i + 1) := by
  unfold stR
  simp only [if_true]
  rw [List.drop_eq_getElem_cons (by rw [unitsN_len]; exact h), unitsN_at]
theorem stR_new2 (b : Fs) (u m i : Nat) (h : i < u) : newSent (stR b u m 1 i) (unitN i) ((unitsN u).drop (i + 1)) = stR b u m 1 (i + 1) := by
  have ht : (unitsN u).take (i + 1) = (unitsN u).take i ++ [unitN i] := by
    rw [List.take_succ_eq_append_getElem (by rw [unitsN_len]; exact h), unitsN_at]
  unfold newSent stR
  simp only [if_true, ht]
  split <;> rfl
theorem stR_len (b : Fs) (u m r i : Nat) (hm : m ≤ u) (hi : i ≤ m) (hr : r ≠ 1) : (stR b u m r i).sent.length = m := by
  rw [stR_sent2 b u m r i hr]
  simp [unitsN_len]
  omega
theorem stR_len1 (b : Fs) (u m i : Nat) (hi : i ≤ u) : (stR b u m 1 i).sent.length = i := by
  rw [stR_sent1]
  simp [unitsN_len]
  omega
theorem stR_at (b : Fs) (u m r i : Nat) (hm : m ≤ u) (hi : i < m) (hr : r ≠ 1) : (stR b u m r i).sent[i]'(by rw [stR_len b u m r i hm (by omega) hr]; exact hi) = (unitN i).on := by
  have : (stR b u m r i).sent[i]? = some (unitN i).on := by
    rw [stR_sent2 b u m r i hr, List.getElem?_append_right (by simp [unitsN_len]; omega)]
    have h0 : i - ((unitsN u).take i).length = 0 := by simp [unitsN_len]; omega
    rw [h0, List.getElem?_map, List.getElem?_drop, Nat.add_zero, List.getElem?_take, if_pos hi, List.getElem?_eq_getElem (by rw [unitsN_len]; omega), unitsN_at]
    rfl
  rw [List.getElem?_eq_getElem (by rw [stR_len b u m r i hm (by omega) hr]; exact hi)] at this
  exact Option.some.inj this
theorem stR_before (b : Fs) (u m r i : Nat) (hm : m ≤ u) (hi : i ≤ m) (hr : r ≠ 1) : ∀ k, (h : k < i) → ((stR b u m r i).sent[k]'(by rw [stR_len b u m r i hm hi hr]; omega)).mark = false := by
  intro k h
  have : (stR b u m r i).sent[k]? = some (unitN k) := by
    rw [stR_sent2 b u m r i hr, List.getElem?_append_left (by simp [unitsN_len]; omega)]
    rw [List.getElem?_take, if_pos h, List.getElem?_eq_getElem (by rw [unitsN_len]; omega), unitsN_at]
  rw [List.getElem?_eq_getElem (by rw [stR_len b u m r i hm hi hr]; omega)] at this
  rw [Option.some.inj this]
  rfl
theorem stR_set (b : Fs) (u m r i : Nat) (hm : m ≤ u) (hi : i < m) (hr : r ≠ 1) : { stR b u m r i with sent := (stR b u m r i).sent.set i ⟨(unitN i).on.id, (unitN i).on.data, false⟩ } = stR b u m r (i + 1) := by
  have ht : (unitsN u).take (i + 1) = (unitsN u).take i ++ [unitN i] := by
    rw [List.take_succ_eq_append_getElem (by rw [unitsN_len]; omega), unitsN_at]
  have hd : ((unitsN u).take m).drop i = unitN i :: ((unitsN u).take m).drop (i + 1) := by
    rw [List.drop_eq_getElem_cons (by simp [unitsN_len]; omega)]
    simp [unitsN]
  unfold stR
  simp only [if_neg hr, ht, hd, List.map_cons]
  rw [List.set_append_right _ _ (by simp [unitsN_len]; omega)]
  simp only [List.length_take, unitsN_len, Nat.min_eq_left (show i ≤ u by omega), Nat.sub_self, List.set_cons_zero, List.append_assoc]
  rfl
theorem stR_end (b : Fs) (u m r : Nat) (hm : m ≤ u) : (stR b u m r m).sent = (unitsN u).take m ∧ (stR b u m r m).waiting = (unitsN u).drop m := by
  unfold stR
  split <;> simp
theorem stR_again (b : Fs) (u m r : Nat) (hm : m ≤ u) (hr : 1 ≤ r) (hs : b.service = 2) (ha : b.asked = false) (hd : b.due = false) (c : Int) : againF { stR b u m r m with clock := c } = stR b u m (r + 1) 0 := by
  have h := stR_end b u m r hm
  have e : ({ stR b u m r m with clock := c } : Fs) = { b with last := u, tries := r, clock := c, sent := (unitsN u).take m, waiting := (unitsN u).drop m } := by
    rw [← h.1, ← h.2]
    rfl
  rw [e]
  unfold againF markF stR
  simp only [if_neg (show ¬ r + 1 = 1 by omega), hs, ha, hd, List.take_zero, List.nil_append, List.drop_zero]
  simp
end
section
def limB (k n tm s : Int) : Fs := beginF (newF 1 2 k n tm) 1 s
def limEnd (k n tm s : Int) (u m N : Nat) : Fs := { alertF { stR (limB k n tm s) u m N m with clock := 0 } 1 with events := [] }
def limSt (k n tm s : Int) (u m N r : Nat) : Fs := if r ≤ N then stR (limB k n tm s) u m r 0 else limEnd k n tm s u m N
section
variable (k n tm s : Int) (u m N r i : Nat) (g : Nat) (S : List Nat) (w : World)
theorem lim_send (hi : i < 60) (hk : 1 ≤ k) (h : FopIn w g S { limB k n tm s with last := i, waiting := unitsN i }) :
    Calls Try.prog 16 #[.pointer (some ⟨g, 0, none⟩), .string ⟨#[UInt8.ofNat i]⟩] w fun e w' => e = .returned (.tuple #[.int .i64 ((i : Int) + 1), .int .i64 0]) ∧ FopTo w w' g S { limB k n tm s with last := ((i + 1 : Nat) : Int), waiting := unitsN (i + 1) } := by
  have := Send_ok { limB k n tm s with last := i, waiting := unitsN i } g S w ⟨#[UInt8.ofNat i]⟩ rfl rfl (by simp [unitsN_len]; omega) (by show (0 : Int) ≤ (i : Int); omega) (by show (i : Int) ≤ 1000000000; omega) (show k ≠ 0 by omega) h
  rw [unitsN_succ]
  exact this
theorem lim_next1 (hs0 : 0 ≤ s) (hs1 : s ≤ 255) (hk : 1 ≤ k) (hk2 : k ≤ 127) (hi : i < m) (hm : m ≤ u) (hu : u ≤ 60) (hmk : (m : Int) ≤ k) (hl : ∀ i ∈ S, i < w.heap.size) (h : FopIn w g S (stR (limB k n tm s) u m 1 i)) :
    Calls Try.prog 13 #[.pointer (some ⟨g, 0, none⟩)] w fun e w' => e = .returned (.tuple #[.agg #[.int .i64 1, .int .i64 2, .bool false, .bool false, .int .i64 ((s + (i : Int)) % 256), .string ⟨#[UInt8.ofNat i]⟩], .bool true]) ∧ FopTo w w' g S (stR (limB k n tm s) u m 1 (i + 1)) := by
  have hlen := stR_len1 (limB k n tm s) u m i (by omega)
  have := Next_new (stR (limB k n tm s) u m 1 i) g S w (unitN i) ((unitsN u).drop (i + 1)) (stR_new _ u m i (by omega)) (by simp [unitsN_len]; omega) hs0 hs1 (off_of (fun x hx => unitsN_off u x (List.mem_of_mem_take (by unfold stR at hx; simpa using hx)))) (by rw [hlen]; omega) hl rfl rfl rfl rfl rfl (by rw [hlen]; show (i : Int) < k; omega) (show k ≠ 0 by omega) h
  rw [stR_new2 _ u m i (by omega), hlen] at this
  exact this
theorem lim_next2 (hr : r ≠ 1) (hs0 : 0 ≤ s) (hs1 : s ≤ 255) (hk : 1 ≤ k) (hi : i < m) (hm : m ≤ u) (hu : u ≤ 60) (hl : ∀ i ∈ S, i < w.heap.size) (h : FopIn w g S (stR (limB k n tm s) u m r i)) :
    Calls Try.prog 13 #[.pointer (some ⟨g, 0, none⟩)] w fun e w' => e = .returned (.tuple #[.agg #[.int .i64 1, .int .i64 2, .bool false, .bool false, .int .i64 ((s + (i : Int)) % 256), .string ⟨#[UInt8.ofNat i]⟩], .bool true]) ∧ FopTo w w' g S (stR (limB k n tm s) u m r (i + 1)) := by
  have hlen := stR_len (limB k n tm s) u m r i hm (by omega) hr
  have hat := stR_at (limB k n tm s) u m r i hm hi hr
  have := Next_marked (stR (limB k n tm s) u m r i) g S w i (by rw [hlen]; exact hi) (by rw [hat]; rfl) (stR_before _ u m r i hm (by omega) hr) hs0 hs1 (by rw [hlen]; omega) hl rfl rfl rfl rfl rfl (show k ≠ 0 by omega) h
  rw [hat, stR_set _ u m r i hm hi hr] at this
  exact this
theorem lim_next (hr : 1 ≤ r) (hs0 : 0 ≤ s) (hs1 : s ≤ 255) (hk : 1 ≤ k) (hk2 : k ≤ 127) (hi : i < m) (hm : m ≤ u) (hu : u ≤ 60) (hmk : (m : Int) ≤ k) (hl : ∀ i ∈ S, i < w.heap.size) (h : FopIn w g S (stR (limB k n tm s) u m r i)) :
    Calls Try.prog 13 #[.pointer (some ⟨g, 0, none⟩)] w fun e w' => e = .returned (.tuple #[.agg #[.int .i64 1, .int .i64 2, .bool false, .bool false, .int .i64 ((s + (i : Int)) % 256), .string ⟨#[UInt8.ofNat i]⟩], .bool true]) ∧ FopTo w w' g S (stR (limB k n tm s) u m r (i + 1)) := by
  by_cases h1 : r = 1
  · subst h1
    exact lim_next1 k n tm s u m i g S w hs0 hs1 hk hk2 hi hm hu hmk hl h
  · exact lim_next2 k n tm s u m r i g S w h1 hs0 hs1 hk hi hm hu hl h
theorem lim_none (hk : 1 ≤ k) (hm : m ≤ u) (hu : u ≤ 60) (hmk : (m : Int) = k ∨ m = u) (hl : ∀ i ∈ S, i < w.heap.size) (h : FopIn w g S (stR (limB k n tm s) u m r m)) :
    Calls Try.prog 13 #[.pointer (some ⟨g, 0, none⟩)] w fun e w' => e = .returned (.tuple #[.agg #[.int .i64 0, .int .i64 0, .bool false, .bool false, .int .i64 0, .string ⟨#[]⟩], .bool false]) ∧ FopTo w w' g S (stR (limB k n tm s) u m r m) := by
  have he := stR_end (limB k n tm s) u m r hm
  have hlen : (stR (limB k n tm s) u m r m).sent.length = m := by rw [he.1]; simp [unitsN_len]; omega
  refine Next_full (stR (limB k n tm s) u m r m) g S w (off_of (fun x hx => unitsN_off u x (List.mem_of_mem_take (by rw [he.1] at hx; exact hx)))) (by rw [hlen]; omega) hl rfl rfl rfl rfl rfl ?_ (show k ≠ 0 by omega) h
  rcases hmk with e | e
  · left; rw [hlen, e]; exact Int.le_refl _
  · right; rw [he.2, e]; simp [unitsN]
theorem lim_wait (hk : 1 ≤ k) (ht : 1 ≤ tm) (ht2 : tm ≤ 1073741824) (hm : m ≤ u) (hm1 : 1 ≤ m) (h : FopIn w g S (stR (limB k n tm s) u m r m)) :
    Calls Try.prog 18 #[.pointer (some ⟨g, 0, none⟩), .int .i64 (tm - 1)] w fun e w' => e = .returned (.tuple #[.slice none 0 0, .int .i64 0]) ∧ FopTo w w' g S { stR (limB k n tm s) u m r m with clock := 1 } := by
  have he := stR_end (limB k n tm s) u m r hm
  have := Tick_wait (stR (limB k n tm s) u m r m) g S w (tm - 1) (by omega) (by omega) rfl (.inr ⟨rfl, by rw [he.1]; simp [unitsN_len]; omega⟩) (by show (-4000000000000000000 : Int) ≤ tm; omega) (by show tm ≤ 4000000000000000000; omega) (by show 0 < tm - (tm - 1); omega) (show k ≠ 0 by omega) h
  have e1 : (stR (limB k n tm s) u m r m).clock - (tm - 1) = 1 := by show tm - (tm - 1) = 1; omega
  rw [e1] at this
  exact this
theorem lim_again (hk : 1 ≤ k) (hr : 1 ≤ r) (hrn : (r : Int) < n) (hn : n ≤ 100) (hm : m ≤ u) (hm1 : 1 ≤ m) (hu : u ≤ 60) (h : FopIn w g S { stR (limB k n tm s) u m r m with clock := 1 }) :
    Calls Try.prog 18 #[.pointer (some ⟨g, 0, none⟩), .int .i64 1] w fun e w' => e = .returned (.tuple #[.slice none 0 0, .int .i64 0]) ∧ FopTo w w' g S (stR (limB k n tm s) u m (r + 1) 0) := by
  have he := stR_end (limB k n tm s) u m r hm
  have := Tick_again { stR (limB k n tm s) u m r m with clock := 1 } g S w 1 (by omega) (by omega) rfl (.inr ⟨rfl, by show 0 < (stR (limB k n tm s) u m r m).sent.length; rw [he.1]; simp [unitsN_len]; omega⟩) (by show (-4000000000000000000 : Int) ≤ 1; omega) (by show (1 : Int) ≤ 4000000000000000000; omega) (by show (1 : Int) - 1 ≤ 0; omega) (by show (r : Int) < n; omega) (by show (0 : Int) ≤ (r : Int); omega) (by show (r : Int) ≤ 1000; omega) (by show (stR (limB k n tm s) u m r m).sent.length ≤ 1000000; rw [he.1]; simp [unitsN_len]; omega) (show k ≠ 0 by omega) h
  rw [stR_again _ u m r hm hr rfl rfl rfl] at this
  exact this
theorem lim_alert (hk : 1 ≤ k) (hN : n = (N : Int)) (hN1 : 1 ≤ N) (hm : m ≤ u) (hm1 : 1 ≤ m) (hu : u ≤ 60) (h : FopIn w g S { stR (limB k n tm s) u m N m with clock := 1 }) :
    Calls Try.prog 18 #[.pointer (some ⟨g, 0, none⟩), .int .i64 1] w fun e w' => ∃ v S', e = .returned (.tuple #[v, .int .i64 0]) ∧ Pt w w' g S S' (limEnd k n tm s u m N) ∧ Given w w' S S' [⟨3, 0, 1⟩] v := by
  have he := stR_end (limB k n tm s) u m N hm
  exact Tick_alert { stR (limB k n tm s) u m N m with clock := 1 } g S w 1 (by omega) (by omega) rfl (.inr ⟨rfl, by show 0 < (stR (limB k n tm s) u m N m).sent.length; rw [he.1]; simp [unitsN_len]; omega⟩) (by show (-4000000000000000000 : Int) ≤ 1; omega) (by show (1 : Int) ≤ 4000000000000000000; omega) (by show (1 : Int) - 1 ≤ 0; omega) (by show n ≤ (N : Int); omega) (by show (0 : Nat) ≤ 1000000; omega) (show k ≠ 0 by omega) h
theorem lim_down (hk : 1 ≤ k) (hl : ∀ i ∈ S, i < w.heap.size) (h : FopIn w g S (limEnd k n tm s u m N)) :
    Calls Try.prog 13 #[.pointer (some ⟨g, 0, none⟩)] w fun e w' => e = .returned (.tuple #[.agg #[.int .i64 0, .int .i64 0, .bool false, .bool false, .int .i64 0, .string ⟨#[]⟩], .bool false]) ∧ FopTo w w' g S (limEnd k n tm s u m N) :=
  Next_down (limEnd k n tm s u m N) g S w hl rfl rfl rfl (.inl (by show (0 : Int) ≠ 2; decide)) (show k ≠ 0 by omega) h
theorem lim_ready (hk : 1 ≤ k) (h : FopIn w g S (limEnd k n tm s u m N)) : Calls Try.prog 12 #[.pointer (some ⟨g, 0, none⟩)] w fun e w' => e = .returned (.bool false) ∧ w = w' :=
  Ready_in (limEnd k n tm s u m N) g S w (show k ≠ 0 by omega) h
theorem lim_sent0 (hk : 1 ≤ k) (h : FopIn w g S (limEnd k n tm s u m N)) : Calls Try.prog 19 #[.pointer (some ⟨g, 0, none⟩)] w fun e w' => e = .returned (.int .i64 0) ∧ w = w' :=
  Sent_in (limEnd k n tm s u m N) g S w (show k ≠ 0 by omega) h
theorem lim_wait0 (hk : 1 ≤ k) (h : FopIn w g S (limEnd k n tm s u m N)) : Calls Try.prog 20 #[.pointer (some ⟨g, 0, none⟩)] w fun e w' => e = .returned (.int .i64 0) ∧ w = w' :=
  Waiting_in (limEnd k n tm s u m N) g S w (show k ≠ 0 by omega) h
theorem lim_begin (hk : 1 ≤ k) (h : FopIn w g S (limEnd k n tm s u m N)) : Calls Try.prog 11 #[.pointer (some ⟨g, 0, none⟩), .int .i64 2, .int .i64 0] w fun e w' => e = .returned (.int .i64 0) ∧ FopTo w w' g S (beginF (limEnd k n tm s u m N) 2 0) :=
  Begin_ok 2 0 (limEnd k n tm s u m N) g S w (by omega) (by omega) (by omega) (by omega) rfl (show k ≠ 0 by omega) h
end
end
end Go.Proofs.Ytbncejmohhejlaa
