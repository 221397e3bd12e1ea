/- What is proved here: Get of the program and Get of the reference answer alike; no program in sight. -/
import Derived.Test.YtkpgenmlpkfokaaN30
set_option linter.unusedVariables false
set_option linter.unusedSimpArgs false
namespace Go.Proofs.Ytkpgenmlpkfokaa
open Go.RowKit
theorem numN_cons_from : ∀ (l : List UInt8) (a : Nat), l.foldl (fun a c => a * 256 + c.toNat) a = a * 256 ^ l.length + numN l
  | [], a => by simp [numN]
  | c :: l, a => by
    rw [List.foldl_cons, numN_cons_from l, show numN (c :: l) = l.foldl (fun a c => a * 256 + c.toNat) (0 * 256 + c.toNat) from rfl, numN_cons_from l, List.length_cons, Nat.pow_succ]
    rw [Nat.add_mul, Nat.mul_assoc, Nat.mul_comm 256, Nat.zero_mul, Nat.zero_add, Nat.add_assoc]
theorem numN_cons (c : UInt8) (l : List UInt8) : numN (c :: l) = c.toNat * 256 ^ l.length + numN l := by
  rw [show numN (c :: l) = l.foldl (fun a c => a * 256 + c.toNat) (0 * 256 + c.toNat) from rfl, numN_cons_from, Nat.zero_mul, Nat.zero_add]
theorem byt_nat (n : Nat) : byt (n : Int) = UInt8.ofNat n := by
  unfold byt
  have : ((n : Int) % 256).toNat = n % 256 := by omega
  rw [this]
  apply UInt8.toNat_inj.1
  simp
theorem byt_self (c : UInt8) : byt (c.toNat : Int) = c := by rw [byt_nat]; simp
theorem pow_cast (k : Nat) : (2 : Int) ^ (8 * k) = ((256 ^ k : Nat) : Int) := by
  rw [Nat.pow_mul 2 8 k |> fun h => show (2 : Int) ^ (8 * k) = ((2 ^ (8 * k) : Nat) : Int) by simp]
  rw [Nat.pow_mul]
theorem beN_mod : ∀ (k : Nat) (n m : Nat), beN k ((n * 256 ^ k + m : Nat) : Int) = beN k (m : Int)
  | 0, _, _ => rfl
  | k + 1, n, m => by
    rw [beN, beN, pow_cast, ← Int.natCast_ediv, ← Int.natCast_ediv, byt_nat, byt_nat]
    have e1 : n * 256 ^ (k + 1) + m = (n * 256) * 256 ^ k + m := by rw [Nat.pow_succ, Nat.mul_assoc, Nat.mul_comm 256]
    rw [e1, beN_mod k (n * 256) m]
    congr 1
    rw [Nat.add_comm, Nat.add_mul_div_right _ _ (Nat.pow_pos (by omega))]
    apply UInt8.toNat_inj.1
    simp
theorem beN_numN : ∀ (l : List UInt8), beN l.length (numN l : Int) = l
  | [] => rfl
  | c :: l => by
    rw [List.length_cons, beN, pow_cast, ← Int.natCast_ediv, numN_cons]
    rw [beN_mod l.length c.toNat (numN l), beN_numN l]
    congr 1
    rw [Nat.add_comm, Nat.add_mul_div_right _ _ (Nat.pow_pos (by omega)), Nat.div_eq_of_lt (numN_lt l), Nat.zero_add, byt_self]
theorem beN_numN' (l : List UInt8) (k : Nat) (h : l.length = k) : beN k (numN l : Int) = l := h ▸ beN_numN l
theorem numN_beN : ∀ (k : Nat) (n : Nat), n < 256 ^ k → numN (beN k (n : Int)) = n
  | 0, n, h => by simp at h; rw [h]; rfl
  | k + 1, n, h => by
    rw [beN, numN_cons, beN_length, pow_cast, ← Int.natCast_ediv, byt_nat]
    have hd : n / 256 ^ k < 256 := by rw [Nat.div_lt_iff_lt_mul (Nat.pow_pos (by omega))]; rw [Nat.pow_succ] at h; rw [Nat.mul_comm]; exact h
    have hm : n = (n / 256 ^ k) * 256 ^ k + n % 256 ^ k := by rw [Nat.mul_comm]; exact (Nat.div_add_mod n _).symm
    have e : beN k (n : Int) = beN k ((n % 256 ^ k : Nat) : Int) := by
      conv => lhs; rw [hm]
      exact beN_mod k _ _
    rw [e, numN_beN k _ (Nat.mod_lt _ (Nat.pow_pos (by omega)))]
    have : (UInt8.ofNat (n / 256 ^ k)).toNat = n / 256 ^ k := by simp; omega
    rw [this]; exact hm.symm
theorem numN_beN' (k : Nat) (x : Int) (h0 : 0 ≤ x) (h : x < (256 ^ k : Nat)) : (numN (beN k x) : Int) = x := by
  obtain ⟨n, rfl⟩ := Int.eq_ofNat_of_zero_le h0
  rw [numN_beN k n (by omega)]
theorem bext {a b : ByteArray} (h : a.data.toList = b.data.toList) : a = b := ByteArray.ext (Array.ext' h)
theorem ext_gen (b : ByteArray) (i j : Nat) : (b.extract i j).data.toList = (b.data.toList.take j).drop i := by
  simp only [ByteArray.data_extract, Array.toList_extract, List.extract_eq_take_drop]
  rw [List.drop_take]
theorem sumB_inj {a b : List UInt8} (h : sumB a = sumB b) : a = b := by
  have hl := congrArg List.length h
  rw [sumB_length, sumB_length] at hl
  have := congrArg (List.take a.length) h
  unfold sumB at this
  rwa [List.take_append_of_le_length (Nat.le_refl _), List.take_length, List.take_append_of_le_length (by omega), List.take_of_length_le (by omega)] at this
theorem vnum_at {s c : ByteArray} (h : List UInt8) (hs : s.data.toList = h ++ c.data.toList) (hh : h.length = 3) (a m : Nat) (hm : a + m ≤ c.size) : vnum s (3 + a) m = numN ((c.data.toList.drop a).take m) := by
  have hsz : s.size = 3 + c.size := by rw [size_list, size_list, hs, List.length_append, hh]
  unfold vnum
  rw [if_pos (by omega), hs, ← hh, List.drop_length_add_append]
theorem vrst_at {s c : ByteArray} (h : List UInt8) (hs : s.data.toList = h ++ c.data.toList) (hh : h.length = 3) (hm : 2 ≤ c.size) : vrst s 5 = c.extract 2 c.size := by
  have hsz : s.size = 3 + c.size := by rw [size_list, size_list, hs, List.length_append, hh]
  apply bext
  unfold vrst
  rw [show min 5 s.size = 5 by omega, ext_gen, ext_gen, hs, List.take_of_length_le (by rw [← hs, ← size_list]; exact Nat.le_refl _), List.take_of_length_le (by rw [← size_list]; exact Nat.le_refl _)]
  rw [show (5 : Nat) = h.length + 2 by omega, List.drop_length_add_append]
theorem take_drop_all (l : List UInt8) (n m : Nat) (h : l.length = n + m) : l.take n ++ (l.drop n).take m = l := by
  have e : (l.drop n).take m = l.drop n := List.take_of_length_le (by rw [List.length_drop]; omega)
  rw [e, List.take_append_drop]
theorem validS_parts {u : Un} (h : validS u = true) : (1 ≤ u.kind ∧ u.kind ≤ 6) ∧ (0 ≤ u.num ∧ u.num ≤ 65535) ∧ fullU u.kind.toNat u = u ∧ validU u.kind.toNat u = true := by
  unfold validS at h
  simp only [Bool.and_eq_true, decide_eq_true_eq] at h
  exact ⟨h.1.1.1, h.1.1.2, (sameU_iff _ _).1 h.1.2, h.2⟩
theorem gaps_back (l : List UInt8) : ∀ n, l.length = 4 * n → (gapsOf l n).flatMap gapB = l := by
  have key : ∀ n, 4 * n ≤ l.length → (gapsOf l n).flatMap gapB = l.take (4 * n) := by
    intro n
    induction n with
    | zero => intro _; simp [gapsOf]
    | succ n ih =>
      intro h
      have e1 : ((l.drop (4 * n)).take 2).length = 2 := by rw [List.length_take, List.length_drop]; omega
      have e2 : ((l.drop (4 * n + 2)).take 2).length = 2 := by rw [List.length_take, List.length_drop]; omega
      have hs : gapsOf l (n + 1) = gapsOf l n ++ [gapAt l n] := by simp [gapsOf, List.range_succ]
      rw [hs, List.flatMap_append, ih (by omega), List.flatMap_singleton]
      unfold gapAt gapB
      rw [beN_numN' _ 2 e1, beN_numN' _ 2 e2]
      rw [show 4 * (n + 1) = 4 * n + (2 + 2) by omega, List.take_add, List.take_add, List.drop_drop]
  intro n h
  rw [key n (by omega), List.take_of_length_le (by omega)]
def u0 (k nu : Nat) : Un := ⟨(k : Int), (nu : Int), ⟨#[]⟩, 0, 0, 0, ⟨#[]⟩, 0, 0, false, []⟩
def Like (k nu : Nat) (c s : ByteArray) : Prop :=
  (∃ u r, readU k (u0 k nu) c = some (u, r) ∧ r.size = 0 ∧ u = looseU k (u0 k nu) s ∧ bodyU k (looseU k (u0 k nu) s) = c.data.toList) ∨
  ((∀ u r, readU k (u0 k nu) c = some (u, r) → r.size ≠ 0) ∧ (bodyU k (looseU k (u0 k nu) s) ≠ c.data.toList ∨ validS (looseU k (u0 k nu) s) = false))
theorem ext_end (c : ByteArray) : (c.extract c.size c.size).size = 0 := by simp
theorem like1 (nu : Nat) (c s : ByteArray) (h : List UInt8) (hs : s.data.toList = h ++ c.data.toList) (hh : h.length = 3) (hc : 1 ≤ c.size) : Like 1 nu c s := by
  by_cases h2 : 2 ≤ c.size
  · left
    refine ⟨_, _, by unfold readU; exact if_pos h2, ext_end c, ?_, ?_⟩
    · unfold looseU
      simp only
      rw [vrst_at h hs hh h2, show vnum s 3 2 = _ from vnum_at h hs hh 0 2 h2, List.drop_zero]
    · show beN 2 (vnum s 3 2 : Int) ++ (vrst s 5).data.toList = _
      rw [vrst_at h hs hh h2, show vnum s 3 2 = _ from vnum_at h hs hh 0 2 h2, List.drop_zero, beN_numN' _ 2 (by rw [List.length_take, ← size_list]; omega), ext_list, List.take_append_drop]
  · right
    refine ⟨fun u r hr => ?_, .inr ?_⟩
    · unfold readU at hr; simp only [if_neg h2] at hr; cases hr
    · cases hv : validS (looseU 1 (u0 1 nu) s) with
      | false => rfl
      | true =>
        have hv4 : (decide (1 ≤ ((vrst s 5).size : Int) ∧ ((vrst s 5).size : Int) ≤ 32) && decide (0 ≤ (vnum s 3 2 : Int) ∧ (vnum s 3 2 : Int) ≤ 65535)) = true := (validS_parts hv).2.2.2
        have hsz : s.size = 3 + c.size := by rw [size_list, size_list, hs, List.length_append, hh]
        have : (vrst s 5).size = 0 := by unfold vrst; simp; omega
        rw [this] at hv4
        simp at hv4
theorem like2 (nu : Nat) (c s : ByteArray) (h : List UInt8) (hs : s.data.toList = h ++ c.data.toList) (hh : h.length = 3) (hc : 1 ≤ c.size) : Like 2 nu c s := by
  by_cases h2 : 2 ≤ c.size
  · left
    refine ⟨_, _, by unfold readU; exact if_pos h2, ext_end c, ?_, ?_⟩
    · unfold looseU
      simp only
      rw [vrst_at h hs hh h2, show vnum s 3 2 = _ from vnum_at h hs hh 0 2 h2, List.drop_zero]
    · show beN 2 (vnum s 3 2 : Int) ++ (vrst s 5).data.toList = _
      rw [vrst_at h hs hh h2, show vnum s 3 2 = _ from vnum_at h hs hh 0 2 h2, List.drop_zero, beN_numN' _ 2 (by rw [List.length_take, ← size_list]; omega), ext_list, List.take_append_drop]
  · right
    refine ⟨fun u r hr => ?_, .inr ?_⟩
    · unfold readU at hr; simp only [if_neg h2] at hr; cases hr
    · cases hv : validS (looseU 2 (u0 2 nu) s) with
      | false => rfl
      | true =>
        have hv4 : (decide (1 ≤ ((vrst s 5).size : Int) ∧ ((vrst s 5).size : Int) ≤ 160) && decide (0 ≤ (vnum s 3 2 : Int) ∧ (vnum s 3 2 : Int) ≤ 65535 - ((vrst s 5).size : Int))) = true := (validS_parts hv).2.2.2
        have hsz : s.size = 3 + c.size := by rw [size_list, size_list, hs, List.length_append, hh]
        have : (vrst s 5).size = 0 := by unfold vrst; simp; omega
        rw [this] at hv4
        simp at hv4
theorem like3 (nu : Nat) (c s : ByteArray) (h : List UInt8) (hs : s.data.toList = h ++ c.data.toList) (hh : h.length = 3) (hc : 1 ≤ c.size) : Like 3 nu c s := by
  by_cases h7 : c.size = 7
  · left
    have n1 := vnum_at h hs hh 0 1 (by omega)
    have n2 := vnum_at h hs hh 1 2 (by omega)
    have n3 := vnum_at h hs hh 3 4 (by omega)
    rw [List.drop_zero] at n1
    refine ⟨_, _, by unfold readU; exact if_pos (by omega), by simp; omega, ?_, ?_⟩
    · unfold looseU
      simp only
      rw [n1, n2, n3]
    · show beN 1 (vnum s (3 + 0) 1 : Int) ++ beN 2 (vnum s (3 + 1) 2 : Int) ++ beN 4 (vnum s (3 + 3) 4 : Int) = _
      rw [n1, n2, n3]
      have hl : c.data.toList.length = 7 := by rw [← size_list]; exact h7
      rw [beN_numN' _ 1 (by rw [List.length_take]; omega), beN_numN' _ 2 (by rw [List.length_take, List.length_drop]; omega), beN_numN' _ 4 (by rw [List.length_take, List.length_drop]; omega)]
      generalize c.data.toList = l at hl
      rw [show l.take 1 ++ (l.drop 1).take 2 = l.take 3 by rw [show (3 : Nat) = 1 + 2 from rfl, List.take_add]]
      exact take_drop_all l 3 4 hl
  · right
    refine ⟨fun u r hr => ?_, .inl ?_⟩
    · unfold readU at hr
      by_cases h8 : 7 ≤ c.size
      · simp only [if_pos h8, Option.some.injEq, Prod.mk.injEq] at hr
        obtain ⟨-, rfl⟩ := hr
        simp; omega
      · simp only [if_neg h8] at hr; cases hr
    · intro e
      have := congrArg List.length e
      rw [← size_list] at this
      have hl : (bodyU 3 (looseU 3 (u0 3 nu) s)).length = 7 := by
        show (beN 1 _ ++ beN 2 _ ++ beN 4 _).length = 7
        simp only [List.length_append, beN_length]
      omega
theorem like4 (nu : Nat) (c s : ByteArray) (h : List UInt8) (hs : s.data.toList = h ++ c.data.toList) (hh : h.length = 3) (hc : 1 ≤ c.size) : Like 4 nu c s := by
  by_cases h1 : c.size = 1
  · left
    have n1 := vnum_at h hs hh 0 1 (by omega)
    rw [List.drop_zero] at n1
    refine ⟨_, _, by unfold readU; exact if_pos (by omega), by simp; omega, ?_, ?_⟩
    · unfold looseU
      simp only
      rw [n1]
    · show beN 1 (vnum s (3 + 0) 1 : Int) = _
      rw [n1, beN_numN' _ 1 (by rw [List.length_take, ← size_list]; omega), List.take_of_length_le (by rw [← size_list]; omega)]
  · right
    refine ⟨fun u r hr => ?_, .inl ?_⟩
    · unfold readU at hr
      simp only [if_pos hc, Option.some.injEq, Prod.mk.injEq] at hr
      obtain ⟨-, rfl⟩ := hr
      simp; omega
    · intro e
      have := congrArg List.length e
      rw [← size_list] at this
      have hl : (bodyU 4 (looseU 4 (u0 4 nu) s)).length = 1 := beN_length 1 _
      omega
theorem like6 (nu : Nat) (c s : ByteArray) (h : List UInt8) (hs : s.data.toList = h ++ c.data.toList) (hh : h.length = 3) (hc : 1 ≤ c.size) : Like 6 nu c s := by
  by_cases h1 : c.size = 1
  · left
    have n1 := vnum_at h hs hh 0 1 (by omega)
    rw [List.drop_zero] at n1
    refine ⟨_, _, by unfold readU; exact if_pos (by omega), by simp; omega, ?_, ?_⟩
    · unfold looseU
      simp only
      rw [n1]
    · show beN 1 (vnum s (3 + 0) 1 : Int) = _
      rw [n1, beN_numN' _ 1 (by rw [List.length_take, ← size_list]; omega), List.take_of_length_le (by rw [← size_list]; omega)]
  · right
    refine ⟨fun u r hr => ?_, .inl ?_⟩
    · unfold readU at hr
      simp only [if_pos hc, Option.some.injEq, Prod.mk.injEq] at hr
      obtain ⟨-, rfl⟩ := hr
      simp; omega
    · intro e
      have := congrArg List.length e
      rw [← size_list] at this
      have hl : (bodyU 6 (looseU 6 (u0 6 nu) s)).length = 1 := beN_length 1 _
      omega
theorem like5 (nu : Nat) (c s : ByteArray) (h : List UInt8) (hs : s.data.toList = h ++ c.data.toList) (hh : h.length = 3) (hc : 1 ≤ c.size) : Like 5 nu c s := by
  have hsz : s.size = 3 + c.size := by rw [size_list, size_list, hs, List.length_append, hh]
  have n1 := vnum_at h hs hh 0 1 (by omega)
  rw [List.drop_zero] at n1
  obtain ⟨x, l, hxl⟩ : ∃ x l, c.data.toList = x :: l := by
    match e : c.data.toList with
    | [] => rw [size_list, e] at hc; simp at hc
    | x :: l => exact ⟨x, l, rfl⟩
  have hcl : c.size = l.length + 1 := by rw [size_list, hxl, List.length_cons]
  have hx1 : numN (c.data.toList.take 1) = x.toNat := by rw [hxl]; simp [numN]
  have hgaps : (looseU 5 (u0 5 nu) s).gaps = gapsOf l (l.length / 4) := by
    show (List.range ((s.size - 4) / 4)).map (fun i => ((vnum s (4 + 4 * i) 2 : Int), (vnum s (4 + 4 * i + 2) 2 : Int))) = _
    rw [show s.size - 4 = l.length by omega]
    unfold gapsOf
    apply List.map_congr_left
    intro i hi
    have hi := List.mem_range.1 hi
    have a1 := vnum_at h hs hh (1 + 4 * i) 2 (by omega)
    have a2 := vnum_at h hs hh (1 + (4 * i + 2)) 2 (by omega)
    rw [show 4 + 4 * i = 3 + (1 + 4 * i) by omega, show 3 + (1 + 4 * i) + 2 = 3 + (1 + (4 * i + 2)) by omega, a1, a2, hxl, Nat.add_comm 1, Nat.add_comm 1, List.drop_succ_cons, List.drop_succ_cons]
    rfl
  have hmeta : (looseU 5 (u0 5 nu) s).meta_ = (x.toNat == 1) := by
    show (vnum s (3 + 0) 1 == 1) = _
    rw [n1, hx1]
  have hbody : bodyU 5 (looseU 5 (u0 5 nu) s) = (if (x.toNat == 1) = true then 1 else 0) :: (gapsOf l (l.length / 4)).flatMap gapB := by
    show (if (looseU 5 (u0 5 nu) s).meta_ = true then 1 else 0) :: (looseU 5 (u0 5 nu) s).gaps.flatMap gapB = _
    rw [hmeta, hgaps]
  by_cases hg : goodGaps c = true
  · left
    have hg' := hg
    unfold goodGaps at hg'
    simp only [Bool.and_eq_true, decide_eq_true_eq, hx1] at hg'
    refine ⟨_, _, by unfold readU; exact if_pos hg, rfl, ?_, ?_⟩
    · have e : looseU 5 (u0 5 nu) s = { (u0 5 nu) with meta_ := (looseU 5 (u0 5 nu) s).meta_, gaps := (looseU 5 (u0 5 nu) s).gaps } := rfl
      rw [e, hmeta, hgaps, hx1, hxl, show (c.size - 1) / 4 = l.length / 4 by rw [hcl]; rfl]
      rfl
    · rw [hbody, gaps_back l _ (by omega), hxl]
      congr 1
      have h01 : x.toNat = 0 ∨ x.toNat = 1 := by omega
      rcases h01 with e | e
      · rw [e]; apply UInt8.toNat_inj.1; rw [e]; rfl
      · rw [e]; apply UInt8.toNat_inj.1; rw [e]; rfl
  · right
    refine ⟨fun u r hr => ?_, .inl ?_⟩
    · unfold readU at hr; simp only [if_neg hg] at hr; cases hr
    · intro e
      rw [hbody, hxl] at e
      injection e with e1 e2
      apply hg
      unfold goodGaps
      have hl := congrArg List.length e2
      rw [gaps_len, gapsOf_length] at hl
      have hx : x.toNat ≤ 1 := by rw [← e1]; split <;> decide
      simp only [Bool.and_eq_true, decide_eq_true_eq, hx1]
      omega
theorem like_any (k nu : Nat) (h1 : 1 ≤ k) (h6 : k ≤ 6) (c s : ByteArray) (h : List UInt8) (hs : s.data.toList = h ++ c.data.toList) (hh : h.length = 3) (hc : 1 ≤ c.size) : Like k nu c s := by
  match k, h1, h6 with
  | 1, _, _ => exact like1 nu c s h hs hh hc
  | 2, _, _ => exact like2 nu c s h hs hh hc
  | 3, _, _ => exact like3 nu c s h hs hh hc
  | 4, _, _ => exact like4 nu c s h hs hh hc
  | 5, _, _ => exact like5 nu c s h hs hh hc
  | 6, _, _ => exact like6 nu c s h hs hh hc
theorem sum_iff (b : ByteArray) (h6 : 6 ≤ b.size) : ((vnum b (b.size - 2) 2 : Int) = w16 (sum16 (b.extract 0 (b.size - 2)).data.toList)) ↔ sumB (b.data.toList.take (b.size - 2)) = b.data.toList := by
  rw [ext_gen, List.drop_zero]
  have hl := size_list b
  have hd : (b.data.toList.drop (b.size - 2)).length = 2 := by rw [List.length_drop]; omega
  have hv : vnum b (b.size - 2) 2 = numN (b.data.toList.drop (b.size - 2)) := by
    unfold vnum
    rw [if_pos (by omega), List.take_of_length_le (by omega)]
  rw [hv]
  generalize hW : w16 (sum16 (b.data.toList.take (b.size - 2))) = W
  have hs : sumB (b.data.toList.take (b.size - 2)) = b.data.toList.take (b.size - 2) ++ beN 2 W := by unfold sumB; rw [hW]
  rw [hs]
  constructor
  · intro h
    rw [← h, beN_numN' _ 2 hd, List.take_append_drop]
  · intro h
    have h2 := congrArg (List.drop (b.size - 2)) h
    have htl : (b.data.toList.take (b.size - 2)).length = b.size - 2 := by rw [List.length_take]; omega
    have : (b.data.toList.take (b.size - 2) ++ beN 2 W).drop (b.size - 2) = beN 2 W := by
      conv => lhs; rw [show b.size - 2 = (b.data.toList.take (b.size - 2)).length from htl.symm]
      rw [htl]
      exact List.drop_left' htl
    rw [this] at h2
    rw [← h2]
    exact numN_beN' 2 W (by rw [← hW]; exact w16_nonneg _) (by rw [← hW]; exact w16_lt _)
theorem looseU_kn (k : Nat) (u : Un) (s : ByteArray) : (looseU k u s).kind = u.kind ∧ (looseU k u s).num = u.num := by
  unfold looseU; split <;> exact ⟨rfl, rfl⟩
theorem validS_kind {u : Un} (h : ¬ (1 ≤ u.kind ∧ u.kind ≤ 6)) : validS u = false := by
  cases hv : validS u with
  | false => rfl
  | true => exact absurd (validS_parts hv).1 h
theorem putS_bad {u : Un} {l : List UInt8} (h : validS u = false) : putS u ≠ (l, 0) := by
  unfold putS
  rw [if_neg (by rw [h]; exact Bool.false_ne_true)]
  intro e
  injection e with _ e
  cases e
theorem getS_eq (b : ByteArray) : getS b = vGetS b := by
  unfold getS vGetS
  by_cases h : 6 ≤ b.size ∧ b.size ≤ 167
  · rw [if_neg (not_not_intro h), if_neg (not_not_intro h)]
    have hiff := sum_iff b h.1
    by_cases hs : sumB (b.data.toList.take (b.size - 2)) = b.data.toList
    · rw [if_neg (not_not_intro hs), if_neg (not_not_intro (hiff.2 hs))]
      have hbl := size_list b
      obtain ⟨s, hse⟩ : ∃ s, s = b.extract 0 (b.size - 2) := ⟨_, rfl⟩
      obtain ⟨c, hce⟩ : ∃ c, c = b.extract 3 (b.size - 2) := ⟨_, rfl⟩
      have hsl : s.data.toList = b.data.toList.take (b.size - 2) := by rw [hse, ext_gen, List.drop_zero]
      have hcl : c.data.toList = (b.data.toList.take (b.size - 2)).drop 3 := by rw [hce, ext_gen]
      have hcs : c.size = b.size - 5 := by rw [hce]; simp; omega
      have hss : s.size = b.size - 2 := by rw [hse]; simp
      have hh : ((b.data.toList.take (b.size - 2)).take 3).length = 3 := by rw [List.length_take, List.length_take]; omega
      have hcat : s.data.toList = (b.data.toList.take (b.size - 2)).take 3 ++ c.data.toList := by rw [hsl, hcl, List.take_append_drop]
      rw [← hse, ← hce]
      obtain ⟨k, hk⟩ : ∃ k, k = numN (b.data.toList.take 1) := ⟨_, rfl⟩
      obtain ⟨nu, hnu⟩ : ∃ nu, nu = numN ((b.data.toList.drop 1).take 2) := ⟨_, rfl⟩
      obtain ⟨x, y, z, l4, hx⟩ : ∃ x y z l4, b.data.toList = x :: y :: z :: l4 := by
        match e : b.data.toList with
        | [] => rw [e, List.length_nil] at hbl; omega
        | [_] => rw [e, List.length_cons, List.length_nil] at hbl; omega
        | [_, _] => rw [e, List.length_cons, List.length_cons, List.length_nil] at hbl; omega
        | x :: y :: z :: l4 => exact ⟨x, y, z, l4, rfl⟩
      obtain ⟨m, hm⟩ : ∃ m, b.size - 2 = m + 3 := ⟨b.size - 5, by omega⟩
      have hkx : k = x.toNat := by rw [hk, hx]; simp [numN]
      have hko : kindOf s = k := by
        unfold kindOf
        rw [hsl, hx, hm, hkx]; rfl
      have hnv : vnum s 1 2 = nu := by
        unfold vnum
        rw [if_pos (by omega), hsl, hnu, hx, hm]; rfl
      have hnl : nu = numN [y, z] := by rw [hnu, hx]; rfl
      have hhead : (b.data.toList.take (b.size - 2)).take 3 = byt (k : Int) :: beN 2 (nu : Int) := by
        rw [hx, hm, hkx, byt_self, hnl, beN_numN' [y, z] 2 rfl]; rfl
      have hvg : vGetU s = looseU k (u0 k nu) s := by unfold vGetU; rw [hko, hnv]; rfl
      rw [← hk, ← hnu, hvg]
      have hkn := looseU_kn k (u0 k nu) s
      have henc : encU (looseU k (u0 k nu) s) = sumB ((b.data.toList.take (b.size - 2)).take 3 ++ bodyU k (looseU k (u0 k nu) s)) := by
        unfold encU headU
        rw [hkn.1, hkn.2, hhead]
        rfl
      by_cases hr : 1 ≤ k ∧ k ≤ 6
      · rw [if_neg (not_not_intro hr)]
        rcases like_any k nu hr.1 hr.2 c s _ hcat hh (by omega) with ⟨u, r, hru, hr0, hul, hb⟩ | ⟨hno, hbad⟩
        · have hm' : readU k { Un.zero with kind := (k : Int), num := (nu : Int) } c = some (u, r) := hru
          rw [hm']
          have hel : encU (looseU k (u0 k nu) s) = b.data.toList := by
            rw [henc, hb, ← hcat, hsl, hs]
          cases hv : validS u with
          | true =>
            have hv2 : validS (looseU k (u0 k nu) s) = true := hul ▸ hv
            rw [if_pos (show putS (looseU k (u0 k nu) s) = (b.data.toList, 0) by unfold putS; rw [if_pos hv2, hel])]
            show (if r.size = 0 ∧ validS u = true then (u, (0 : Int)) else (Un.zero, 6)) = _
            rw [if_pos ⟨hr0, hv⟩, hul]
          | false =>
            have hv2 : validS (looseU k (u0 k nu) s) = false := hul ▸ hv
            rw [if_neg (putS_bad hv2)]
            show (if r.size = 0 ∧ validS u = true then (u, (0 : Int)) else (Un.zero, 6)) = _
            rw [if_neg (fun e => by rw [hv] at e; exact Bool.false_ne_true e.2)]
        · have hne : putS (looseU k (u0 k nu) s) ≠ (b.data.toList, 0) := by
            rcases hbad with hb | hv
            · unfold putS
              split
              · intro e
                injection e with e _
                rw [henc] at e
                apply hb
                have e2 := sumB_inj (e.trans hs.symm)
                exact List.append_cancel_left (e2.trans (hsl.symm.trans hcat))
              · intro e; injection e with _ e; cases e
            · exact putS_bad hv
          rw [if_neg hne]
          show (match readU k (u0 k nu) c with | none => (Un.zero, (6 : Int)) | some (u, r) => if r.size = 0 ∧ validS u = true then (u, 0) else (Un.zero, 6)) = _
          cases hru : readU k (u0 k nu) c with
          | none => rfl
          | some p =>
            obtain ⟨u, r⟩ := p
            show (if r.size = 0 ∧ validS u = true then (u, (0 : Int)) else (Un.zero, 6)) = _
            rw [if_neg (fun e => hno u r hru e.1)]
      · rw [if_pos hr]
        have hv : validS (looseU k (u0 k nu) s) = false := validS_kind (by rw [hkn.1]; show ¬ (1 ≤ (k : Int) ∧ (k : Int) ≤ 6); omega)
        rw [if_neg (putS_bad hv)]
    · rw [if_pos hs, if_pos (fun e => hs (hiff.1 e))]
  · rw [if_pos h, if_pos h]
/-- What is accepted is the encoding of the result. -/
theorem getS_put (b : ByteArray) (h : (getS b).2 = 0) : putS (getS b).1 = (b.data.toList, 0) := by
  rw [getS_eq] at h ⊢
  unfold vGetS at h ⊢
  split
  · rename_i h1; rw [if_pos h1] at h; cases h
  · rename_i h1
    rw [if_neg h1] at h
    split
    · rename_i h2; rw [if_pos h2] at h; cases h
    · rename_i h2
      rw [if_neg h2] at h
      split
      · rename_i h3; exact h3
      · rename_i h3; rw [if_neg h3] at h; cases h
theorem okGaps_ok : ∀ (l : List Gp) (last : Int), -1 ≤ last → okGaps last l = true → ∀ g ∈ l, 0 ≤ g.1 ∧ g.1 ≤ 65535 ∧ 0 ≤ g.2 ∧ g.2 ≤ 65535
  | [], _, _, _, g, hg => by simp at hg
  | a :: l, last, hl, h, g, hg => by
    simp only [okGaps, Bool.and_eq_true, decide_eq_true_eq] at h
    obtain ⟨⟨h1, h2, h3⟩, h4⟩ := h
    rcases List.mem_cons.1 hg with rfl | hg
    · omega
    · exact okGaps_ok l a.2 (by omega) h4 g hg
theorem bodyU_len (u : Un) (hv : validS u = true) : 1 ≤ (bodyU u.kind.toNat u).length ∧ (bodyU u.kind.toNat u).length ≤ 162 := by
  obtain ⟨hk, -, -, h4⟩ := validS_parts hv
  obtain ⟨k, hke⟩ := Int.eq_ofNat_of_zero_le (by omega : 0 ≤ u.kind)
  rw [hke] at hk h4 ⊢
  rw [Int.toNat_natCast] at h4 ⊢
  have h6 : k ≤ 6 := by omega
  have h1 : 1 ≤ k := by omega
  clear hk hke
  match k, h1, h6 with
  | 1, _, _ =>
    simp only [validU, Bool.and_eq_true, decide_eq_true_eq] at h4
    show 1 ≤ (beN 2 u.size ++ u.name.data.toList).length ∧ (beN 2 u.size ++ u.name.data.toList).length ≤ 162
    rw [List.length_append, beN_length, ← size_list]; omega
  | 2, _, _ =>
    simp only [validU, Bool.and_eq_true, decide_eq_true_eq] at h4
    show 1 ≤ (beN 2 u.off ++ u.data.data.toList).length ∧ (beN 2 u.off ++ u.data.data.toList).length ≤ 162
    rw [List.length_append, beN_length, ← size_list]; omega
  | 3, _, _ =>
    show 1 ≤ (beN 1 u.why ++ beN 2 u.size ++ beN 4 u.sum).length ∧ (beN 1 u.why ++ beN 2 u.size ++ beN 4 u.sum).length ≤ 162
    rw [List.length_append, List.length_append, beN_length, beN_length, beN_length]; omega
  | 4, _, _ =>
    show 1 ≤ (beN 1 u.why).length ∧ (beN 1 u.why).length ≤ 162
    rw [beN_length]; omega
  | 5, _, _ =>
    simp only [validU, orderlyL, Bool.and_eq_true, decide_eq_true_eq] at h4
    show 1 ≤ (u.gaps.flatMap gapB).length + 1 ∧ (u.gaps.flatMap gapB).length + 1 ≤ 162
    rw [gaps_len]; omega
  | 6, _, _ =>
    show 1 ≤ (beN 1 u.ans).length ∧ (beN 1 u.ans).length ≤ 162
    rw [beN_length]; omega
theorem encU_len (u : Un) (hv : validS u = true) : 6 ≤ (encU u).length ∧ (encU u).length ≤ 167 := by
  have := bodyU_len u hv
  unfold encU headU
  rw [sumB_length, List.length_append, List.length_cons, beN_length]; omega
theorem gaps_again (l : List Gp) (h : ∀ g ∈ l, 0 ≤ g.1 ∧ g.1 ≤ 65535 ∧ 0 ≤ g.2 ∧ g.2 ≤ 65535) : gapsOf (l.flatMap gapB) l.length = l := by
  have hlen : ∀ k : Nat, ((l.take k).flatMap gapB).length = 4 * (l.take k).length := fun k => gaps_len _
  unfold gapsOf
  apply List.ext_getElem
  · rw [List.length_map, List.length_range]
  · intro i h1 h2
    have hg := h l[i] (List.getElem_mem h2)
    have hd : (l.flatMap gapB).drop (4 * i) = beN 2 (l[i]).1 ++ (beN 2 (l[i]).2 ++ (l.drop (i + 1)).flatMap gapB) := by
      conv => lhs; rw [← List.take_append_drop i l, List.flatMap_append]
      rw [List.drop_left' (by rw [gaps_len, List.length_take]; omega), List.drop_eq_getElem_cons h2, List.flatMap_cons, gapB, List.append_assoc]
    have hd2 : (l.flatMap gapB).drop (4 * i + 2) = beN 2 (l[i]).2 ++ (l.drop (i + 1)).flatMap gapB := by
      rw [← List.drop_drop, hd, List.drop_left' (beN_length _ _)]
    rw [List.getElem_map, List.getElem_range]
    unfold gapAt
    rw [hd, hd2, List.take_left' (beN_length _ _), List.take_left' (beN_length _ _), numN_beN' 2 _ hg.1 (by omega), numN_beN' 2 _ hg.2.2.1 (by omega)]
theorem loose_again (u : Un) (hv : validS u = true) (hi : 0 ≤ u.sum ∧ u.sum ≤ 4294967295) (h : List UInt8) (hh : h.length = 3) (s : ByteArray) (hs : s.data.toList = h ++ bodyU u.kind.toNat u) : looseU u.kind.toNat (u0 u.kind.toNat u.num.toNat) s = u := by
  obtain ⟨hk, hn, h3, h4⟩ := validS_parts hv
  have hb := bodyU_len u hv
  obtain ⟨c, hc⟩ : ∃ c : ByteArray, c.data.toList = bodyU u.kind.toNat u := ⟨⟨(bodyU u.kind.toNat u).toArray⟩, rfl⟩
  have hcs : c.size = (bodyU u.kind.toNat u).length := by rw [size_list, hc]
  rw [← hc] at hs
  have hsz : s.size = 3 + c.size := by rw [size_list, size_list, hs, List.length_append, hh]
  obtain ⟨k, hke⟩ := Int.eq_ofNat_of_zero_le (by omega : 0 ≤ u.kind)
  obtain ⟨n, hne⟩ := Int.eq_ofNat_of_zero_le hn.1
  obtain ⟨ki, nu, nm, sz, su, of, da, wy, an, me, gs⟩ := u
  simp only at hke hne hk hn hi
  subst hke hne
  simp only [Int.toNat_natCast] at h3 h4 hb hc hcs ⊢
  have h6 : k ≤ 6 := by omega
  have h1 : 1 ≤ k := by omega
  clear hv
  match k, h1, h6 with
  | 1, _, _ =>
    simp only [validU, Bool.and_eq_true, decide_eq_true_eq] at h4
    have hc' : c.data.toList = beN 2 sz ++ nm.data.toList := hc
    have h2 : 2 ≤ c.size := by rw [size_list, hc', List.length_append, beN_length]; omega
    have e1 : (vnum s 3 2 : Int) = sz := by
      rw [show vnum s 3 2 = _ from vnum_at h hs hh 0 2 h2, hc', List.drop_zero, List.take_left' (beN_length _ _)]
      exact numN_beN' 2 sz h4.2.1 (by omega)
    have e2 : vrst s 5 = nm := by
      rw [vrst_at h hs hh h2]
      apply bext
      rw [ext_list, hc', List.drop_left' (beN_length _ _)]
    rw [← h3]
    show (⟨_, _, vrst s 5, (vnum s 3 2 : Int), _, _, _, _, _, _, _⟩ : Un) = _
    rw [e1, e2]; rfl
  | 2, _, _ =>
    simp only [validU, Bool.and_eq_true, decide_eq_true_eq] at h4
    have hc' : c.data.toList = beN 2 of ++ da.data.toList := hc
    have h2 : 2 ≤ c.size := by rw [size_list, hc', List.length_append, beN_length]; omega
    have e1 : (vnum s 3 2 : Int) = of := by
      rw [show vnum s 3 2 = _ from vnum_at h hs hh 0 2 h2, hc', List.drop_zero, List.take_left' (beN_length _ _)]
      exact numN_beN' 2 of h4.2.1 (by omega)
    have e2 : vrst s 5 = da := by
      rw [vrst_at h hs hh h2]
      apply bext
      rw [ext_list, hc', List.drop_left' (beN_length _ _)]
    rw [← h3]
    show (⟨_, _, _, _, _, (vnum s 3 2 : Int), vrst s 5, _, _, _, _⟩ : Un) = _
    rw [e1, e2]; rfl
  | 3, _, _ =>
    simp only [validU, Bool.and_eq_true, decide_eq_true_eq] at h4
    have hc' : c.data.toList = beN 1 wy ++ (beN 2 sz ++ beN 4 su) := hc.trans (List.append_assoc _ _ _)
    have h2 : c.size = 7 := by rw [size_list, hc', List.length_append, List.length_append, beN_length, beN_length, beN_length]
    have e1 : (vnum s 3 1 : Int) = wy := by
      rw [show vnum s 3 1 = _ from vnum_at h hs hh 0 1 (by omega), hc', List.drop_zero, List.take_left' (beN_length _ _)]
      exact numN_beN' 1 wy h4.1.1 (by omega)
    have e2 : (vnum s 4 2 : Int) = sz := by
      rw [show vnum s 4 2 = _ from vnum_at h hs hh 1 2 (by omega), hc', List.drop_left' (beN_length _ _), List.take_left' (beN_length _ _)]
      exact numN_beN' 2 sz h4.2.1 (by omega)
    have e3 : (vnum s 6 4 : Int) = su := by
      rw [show vnum s 6 4 = _ from vnum_at h hs hh 3 4 (by omega), hc', show (3 : Nat) = 1 + 2 from rfl, ← List.drop_drop, List.drop_left' (beN_length _ _), List.drop_left' (beN_length _ _), List.take_of_length_le (by rw [beN_length]; omega)]
      exact numN_beN' 4 su hi.1 (by omega)
    rw [← h3]
    show (⟨_, _, _, (vnum s 4 2 : Int), (vnum s 6 4 : Int), _, _, (vnum s 3 1 : Int), _, _, _⟩ : Un) = _
    rw [e1, e2, e3]; rfl
  | 4, _, _ =>
    simp only [validU, decide_eq_true_eq] at h4
    have hc' : c.data.toList = beN 1 wy := hc
    have h2 : c.size = 1 := by rw [size_list, hc', beN_length]
    have e1 : (vnum s 3 1 : Int) = wy := by
      rw [show vnum s 3 1 = _ from vnum_at h hs hh 0 1 (by omega), hc', List.drop_zero, List.take_of_length_le (by rw [beN_length]; omega)]
      exact numN_beN' 1 wy h4.1 (by omega)
    rw [← h3]
    show (⟨_, _, _, _, _, _, _, (vnum s 3 1 : Int), _, _, _⟩ : Un) = _
    rw [e1]; rfl
  | 5, _, _ =>
    simp only [validU, orderlyL, Bool.and_eq_true, decide_eq_true_eq] at h4
    have hc' : c.data.toList = (if me then 1 else 0) :: gs.flatMap gapB := hc
    have h2 : c.size = 1 + 4 * gs.length := by rw [size_list, hc', List.length_cons, gaps_len]; omega
    have e1 : (vnum s 3 1 == 1) = me := by
      rw [show vnum s 3 1 = _ from vnum_at h hs hh 0 1 (by omega), hc', List.drop_zero]
      cases me <;> rfl
    have e2 : (List.range ((s.size - 4) / 4)).map (fun i => ((vnum s (4 + 4 * i) 2 : Int), (vnum s (4 + 4 * i + 2) 2 : Int))) = gs := by
      rw [show (s.size - 4) / 4 = gs.length by omega]
      refine Eq.trans ?_ (gaps_again gs (okGaps_ok gs (-1) (by omega) h4.1.1))
      unfold gapsOf
      apply List.map_congr_left
      intro i hi
      have hi := List.mem_range.1 hi
      have a1 := vnum_at h hs hh (1 + 4 * i) 2 (by omega)
      have a2 := vnum_at h hs hh (1 + (4 * i + 2)) 2 (by omega)
      rw [show 4 + 4 * i = 3 + (1 + 4 * i) by omega, show 3 + (1 + 4 * i) + 2 = 3 + (1 + (4 * i + 2)) by omega, a1, a2, hc', Nat.add_comm 1, Nat.add_comm 1, List.drop_succ_cons, List.drop_succ_cons]
      rfl
    rw [← h3]
    show (⟨_, _, _, _, _, _, _, _, _, (vnum s 3 1 == 1), (List.range ((s.size - 4) / 4)).map (fun i => ((vnum s (4 + 4 * i) 2 : Int), (vnum s (4 + 4 * i + 2) 2 : Int)))⟩ : Un) = _
    rw [e1, e2]; rfl
  | 6, _, _ =>
    simp only [validU, Bool.or_eq_true, beq_iff_eq] at h4
    have hc' : c.data.toList = beN 1 an := hc
    have h2 : c.size = 1 := by rw [size_list, hc', beN_length]
    have e1 : (vnum s 3 1 : Int) = an := by
      rw [show vnum s 3 1 = _ from vnum_at h hs hh 0 1 (by omega), hc', List.drop_zero, List.take_of_length_le (by rw [beN_length]; omega)]
      exact numN_beN' 1 an (by omega) (by omega)
    rw [← h3]
    show (⟨_, _, _, _, _, _, _, _, (vnum s 3 1 : Int), _, _⟩ : Un) = _
    rw [e1]; rfl
/-- A unit is got from its encoding. -/
theorem getS_enc (u : Un) (hv : validS u = true) (hi : 0 ≤ u.sum ∧ u.sum ≤ 4294967295) : getS ⟨(encU u).toArray⟩ = (u, 0) := by
  rw [getS_eq]
  obtain ⟨b, hb⟩ : ∃ b : ByteArray, b = ⟨(encU u).toArray⟩ := ⟨_, rfl⟩
  rw [← hb]
  have hbl : b.data.toList = encU u := by rw [hb]
  have hlen := encU_len u hv
  have hsz : b.size = (encU u).length := by rw [size_list, hbl]
  obtain ⟨hk, hn, h3, h4⟩ := validS_parts hv
  have hbody := bodyU_len u hv
  have hx : (headU u ++ bodyU u.kind.toNat u).length = b.size - 2 := by
    rw [hsz]; unfold encU; rw [sumB_length]; omega
  have htake : b.data.toList.take (b.size - 2) = headU u ++ bodyU u.kind.toNat u := by
    rw [hbl]; unfold encU sumB; rw [List.take_left' hx]
  obtain ⟨s, hse⟩ : ∃ s, s = b.extract 0 (b.size - 2) := ⟨_, rfl⟩
  have hsl : s.data.toList = headU u ++ bodyU u.kind.toNat u := by rw [hse, ext_gen, List.drop_zero, htake]
  have hss : s.size = b.size - 2 := by rw [size_list, hsl, hx]
  have hh : (headU u).length = 3 := by unfold headU; rw [List.length_cons, beN_length]
  have hko : kindOf s = u.kind.toNat := by
    unfold kindOf
    rw [hsl]
    show (byt u.kind).toNat = _
    have := byt_toNat u.kind
    omega
  have hnv : vnum s 1 2 = u.num.toNat := by
    unfold vnum
    have h5 : 1 + 2 ≤ s.size := by omega
    rw [if_pos h5, hsl]
    show numN ((beN 2 u.num ++ bodyU u.kind.toNat u).take 2) = _
    rw [List.take_left' (beN_length _ _)]
    have := numN_beN' 2 u.num hn.1 (by omega)
    omega
  have hvg : vGetU s = u := by
    unfold vGetU; rw [hko, hnv]
    exact loose_again u hv hi _ hh s hsl
  unfold vGetS
  rw [if_neg (not_not_intro (by omega)), if_neg (not_not_intro ((sum_iff b (by omega)).2 (by rw [htake, hbl]; rfl))), ← hse, hvg, if_pos (by unfold putS; rw [if_pos hv, hbl])]
theorem valid_fine (u : Un) (hv : validS u = true) : u.name.size ≤ 32 ∧ u.data.size ≤ 160 ∧ u.gaps.length ≤ 20 := by
  obtain ⟨hk, -, h3, h4⟩ := validS_parts hv
  obtain ⟨k, hke⟩ := Int.eq_ofNat_of_zero_le (by omega : 0 ≤ u.kind)
  rw [hke] at hk h3 h4
  rw [Int.toNat_natCast] at h3 h4
  have h6 : k ≤ 6 := by omega
  have h1 : 1 ≤ k := by omega
  clear hk hke hv
  rw [← h3]
  match k, h1, h6 with
  | 1, _, _ =>
    simp only [validU, Bool.and_eq_true, decide_eq_true_eq] at h4
    exact ⟨show u.name.size ≤ 32 by omega, Nat.zero_le _, Nat.zero_le _⟩
  | 2, _, _ =>
    simp only [validU, Bool.and_eq_true, decide_eq_true_eq] at h4
    exact ⟨Nat.zero_le _, show u.data.size ≤ 160 by omega, Nat.zero_le _⟩
  | 3, _, _ => exact ⟨Nat.zero_le _, Nat.zero_le _, Nat.zero_le _⟩
  | 4, _, _ => exact ⟨Nat.zero_le _, Nat.zero_le _, Nat.zero_le _⟩
  | 5, _, _ =>
    simp only [validU, orderlyL, Bool.and_eq_true, decide_eq_true_eq] at h4
    exact ⟨Nat.zero_le _, Nat.zero_le _, h4.1.2⟩
  | 6, _, _ => exact ⟨Nat.zero_le _, Nat.zero_le _, Nat.zero_le _⟩
theorem valid_ints (u : Un) (hv : validS u = true) (hs : 0 ≤ u.sum ∧ u.sum ≤ 4294967295) : intsU u := by
  obtain ⟨hk, hn, h3, h4⟩ := validS_parts hv
  obtain ⟨ki, nu, nm, sz, su, of, da, wy, an, me, gs⟩ := u
  simp only at hk hn hs h3 h4
  obtain ⟨k, rfl⟩ := Int.eq_ofNat_of_zero_le (by omega : 0 ≤ ki)
  rw [Int.toNat_natCast] at h3 h4
  have h6 : k ≤ 6 := by omega
  have h1 : 1 ≤ k := by omega
  clear hv
  match k, h1, h6 with
  | 1, _, _ =>
    simp only [validU, Bool.and_eq_true, decide_eq_true_eq] at h4
    simp only [fullU, onlyU, Un.zero, Un.mk.injEq] at h3
    obtain ⟨-, -, -, -, rfl, rfl, -, rfl, rfl, rfl, rfl⟩ := h3
    refine ⟨?_, ?_, ?_, ?_, ?_, ?_, ?_, ?_, ?_, ?_, ?_, ?_, ?_, ?_, fun i hi => absurd hi (Nat.not_lt_zero _)⟩ <;> simp only <;> omega
  | 2, _, _ =>
    simp only [validU, Bool.and_eq_true, decide_eq_true_eq] at h4
    simp only [fullU, onlyU, Un.zero, Un.mk.injEq] at h3
    obtain ⟨-, -, -, rfl, rfl, -, -, rfl, rfl, rfl, rfl⟩ := h3
    refine ⟨?_, ?_, ?_, ?_, ?_, ?_, ?_, ?_, ?_, ?_, ?_, ?_, ?_, ?_, fun i hi => absurd hi (Nat.not_lt_zero _)⟩ <;> simp only <;> omega
  | 3, _, _ =>
    simp only [validU, Bool.and_eq_true, decide_eq_true_eq] at h4
    simp only [fullU, onlyU, Un.zero, Un.mk.injEq] at h3
    obtain ⟨-, -, -, -, -, rfl, -, -, rfl, rfl, rfl⟩ := h3
    refine ⟨?_, ?_, ?_, ?_, ?_, ?_, ?_, ?_, ?_, ?_, ?_, ?_, ?_, ?_, fun i hi => absurd hi (Nat.not_lt_zero _)⟩ <;> simp only <;> omega
  | 4, _, _ =>
    simp only [validU, decide_eq_true_eq] at h4
    simp only [fullU, onlyU, Un.zero, Un.mk.injEq] at h3
    obtain ⟨-, -, -, rfl, rfl, rfl, -, -, rfl, rfl, rfl⟩ := h3
    refine ⟨?_, ?_, ?_, ?_, ?_, ?_, ?_, ?_, ?_, ?_, ?_, ?_, ?_, ?_, fun i hi => absurd hi (Nat.not_lt_zero _)⟩ <;> simp only <;> omega
  | 5, _, _ =>
    simp only [validU, orderlyL, Bool.and_eq_true, decide_eq_true_eq] at h4
    have hg := okGaps_ok gs (-1) (by omega) h4.1.1
    simp only [fullU, onlyU, Un.zero, Un.mk.injEq] at h3
    obtain ⟨-, -, -, rfl, rfl, rfl, -, rfl, rfl, -, -⟩ := h3
    refine ⟨?_, ?_, ?_, ?_, ?_, ?_, ?_, ?_, ?_, ?_, ?_, ?_, ?_, ?_, fun i hi => ?_⟩
    all_goals first | (have := hg gs[i] (List.getElem_mem hi); simp only; omega) | (simp only; omega)
  | 6, _, _ =>
    simp only [validU, Bool.or_eq_true, beq_iff_eq] at h4
    simp only [fullU, onlyU, Un.zero, Un.mk.injEq] at h3
    obtain ⟨-, -, -, rfl, rfl, rfl, -, rfl, -, rfl, rfl⟩ := h3
    refine ⟨?_, ?_, ?_, ?_, ?_, ?_, ?_, ?_, ?_, ?_, ?_, ?_, ?_, ?_, fun i hi => absurd hi (Nat.not_lt_zero _)⟩ <;> simp only <;> omega
theorem putS_ok {u : Un} {l : List UInt8} (h : putS u = (l, 0)) : validS u = true ∧ encU u = l := by
  unfold putS at h
  split at h
  · rename_i hv
    injection h with h _
    exact ⟨hv, h⟩
  · injection h with _ h; cases h
theorem vnum_range (b : ByteArray) (a m : Nat) (hm : m ≤ 4) : (0 : Int) ≤ (vnum b a m : Int) ∧ (vnum b a m : Int) ≤ 4294967295 := by
  have := vnum_lt b a m hm
  omega
theorem vGetU_sum (s : ByteArray) : 0 ≤ (vGetU s).sum ∧ (vGetU s).sum ≤ 4294967295 := by
  unfold vGetU looseU
  split
  · exact ⟨Int.le_refl _, by show (0 : Int) ≤ 4294967295; omega⟩
  · exact ⟨Int.le_refl _, by show (0 : Int) ≤ 4294967295; omega⟩
  · exact vnum_range s 6 4 (by omega)
  · exact ⟨Int.le_refl _, by show (0 : Int) ≤ 4294967295; omega⟩
  · exact ⟨Int.le_refl _, by show (0 : Int) ≤ 4294967295; omega⟩
  · exact ⟨Int.le_refl _, by show (0 : Int) ≤ 4294967295; omega⟩
  · exact ⟨Int.le_refl _, by show (0 : Int) ≤ 4294967295; omega⟩
/-- What Get can answer. -/
theorem getS_cases (b : ByteArray) : (∃ x : Int, x ≠ 0 ∧ getS b = (Un.zero, x)) ∨ (∃ u, getS b = (u, 0) ∧ validS u = true ∧ encU u = b.data.toList ∧ intsU u) := by
  rw [getS_eq]
  unfold vGetS
  split
  · exact .inl ⟨6, by omega, rfl⟩
  · split
    · exact .inl ⟨370, by omega, rfl⟩
    · split
      · rename_i h
        obtain ⟨hv, he⟩ := putS_ok h
        exact .inr ⟨_, rfl, hv, he, valid_ints _ hv (vGetU_sum _)⟩
      · exact .inl ⟨6, by omega, rfl⟩
theorem getS_fine (b : ByteArray) : (getS b).1.name.size ≤ 32 ∧ (getS b).1.data.size ≤ 160 ∧ (getS b).1.gaps.length ≤ 20 := by
  rcases getS_cases b with ⟨x, -, h⟩ | ⟨u, h, hv, -, -⟩
  · rw [h]; exact ⟨Nat.zero_le _, Nat.zero_le _, Nat.zero_le _⟩
  · rw [h]; exact valid_fine u hv
end Go.Proofs.Ytkpgenmlpkfokaa
