/- What is proved here: a part of the proof of TopLink (texts Fi4 Fi5 Fi6). No condition. -/
import Derived.Test.YtgopighmifpefaaGreatDoorPart13
set_option linter.unusedVariables false
set_option linter.unusedSimpArgs false
namespace Go.Proofs.YtgopighmifpefaaGreatDoor
section
open Go.RowKit
theorem hv_lin : ∀ a : Nat, a < 16 → ∀ b : Nat, b < 16 → halvesL.getD (a ^^^ b) 0 = halvesL.getD a 0 ^^^ halvesL.getD b 0 := by decide +kernel
theorem lo_lin : ∀ a : Nat, a < 128 → ∀ b : Nat, b < 128 → (a ^^^ b) * 16 % 128 = (a * 16 % 128) ^^^ (b * 16 % 128) ∧ (a ^^^ b) / 8 = (a / 8) ^^^ (b / 8) ∧ a / 8 < 16 := by decide +kernel
theorem x16 : ∀ a : Nat, a < 16 → ∀ b : Nat, b < 16 → a ^^^ b < 16 := by decide +kernel
theorem half_lin (r d h g : Nat) (hr : r < 128) (hd : d < 128) (hh : h < 16) (hg : g < 16) : halfN (r ^^^ d) (h ^^^ g) = halfN r h ^^^ halfN d g := by
  obtain ⟨h1, h2, h3⟩ := lo_lin r hr d hd
  have h4 := (lo_lin d hd r hr).2.2
  unfold halfN
  rw [h1, h2, show (r / 8 ^^^ d / 8) ^^^ (h ^^^ g) = (r / 8 ^^^ h) ^^^ (d / 8 ^^^ g) by ac_rfl, hv_lin _ (x16 _ h3 _ hh) _ (x16 _ h4 _ hg)]
  ac_rfl
theorem nib_lin : ∀ a : Nat, a < 256 → ∀ b : Nat, b < 256 → (a ^^^ b) / 16 = (a / 16) ^^^ (b / 16) ∧ (a ^^^ b) % 16 = (a % 16) ^^^ (b % 16) := by decide +kernel
theorem byte_lin (r d : Nat) (hr : r < 128) (hd : d < 128) (c e : UInt8) : byteN (r ^^^ d) (c ^^^ e) = byteN r c ^^^ byteN d e := by
  have hc := c.toNat_lt; have he := e.toNat_lt
  obtain ⟨h1, h2⟩ := nib_lin c.toNat hc e.toNat he
  unfold byteN
  rw [UInt8.toNat_xor, h1, h2, half_lin r d _ _ hr hd (by omega) (by omega)]
  exact half_lin _ _ _ _ (half_lt r hr _ (by omega)).1 (half_lt d hd _ (by omega)).1 (by omega) (by omega)
def fold1 (r : Nat) (l : List UInt8) : Nat := l.foldl byteN r
theorem fold1_lin (l : List UInt8) : ∀ r d : Nat, r < 128 → d < 128 → fold1 (r ^^^ d) l = fold1 r l ^^^ fold1 d (List.replicate l.length 0) := by
  induction l with
  | nil => intro r d _ _; rfl
  | cons c l ih =>
    intro r d hr hd
    show fold1 (byteN (r ^^^ d) c) l = fold1 (byteN r c) l ^^^ fold1 (byteN d 0) (List.replicate l.length 0)
    have hz : c ^^^ 0 = c := by simp
    have h1 := byte_lin r d hr hd c 0
    rw [hz] at h1
    rw [h1, ih _ _ (byteN_lt r hr c) (byteN_lt d hd 0)]
/-- A byte of a string is changed. -/
theorem rem_set (l : List UInt8) (j : Nat) (e : UInt8) (hj : j < l.length) : remL (l.set j (l.getD j 0 ^^^ e)) = remL l ^^^ fold1 (byteN 0 e) (List.replicate (l.length - 1 - j) 0) := by
  have hsplit : l = l.take j ++ l[j] :: l.drop (j + 1) := by simp
  have hg : l.getD j 0 = l[j] := by rw [List.getD_eq_getElem?_getD, List.getElem?_eq_getElem hj]; rfl
  have hs2 : l.set j (l.getD j 0 ^^^ e) = l.take j ++ (l[j] ^^^ e) :: l.drop (j + 1) := by
    rw [hg, List.set_eq_take_append_cons_drop, if_pos hj]
  have hlen : (l.drop (j + 1)).length = l.length - 1 - j := by rw [List.length_drop]; omega
  have hp := remL_lt (l.take j)
  have hx : ∀ c : UInt8, remL (l.take j ++ c :: l.drop (j + 1)) = fold1 (byteN (remL (l.take j)) c) (l.drop (j + 1)) := by
    intro c; unfold remL fold1; rw [List.foldl_append]; rfl
  have e2 : remL l = fold1 (byteN (remL (l.take j)) l[j]) (l.drop (j + 1)) := by
    conv => lhs; rw [hsplit]
    exact hx l[j]
  rw [hs2, hx, e2]
  have h0 : byteN (remL (l.take j)) (l[j] ^^^ e) = byteN (remL (l.take j)) l[j] ^^^ byteN 0 e := by
    have := byte_lin (remL (l.take j)) 0 hp (by decide) l[j] e
    rwa [Nat.xor_zero] at this
  rw [h0, fold1_lin _ _ _ (byteN_lt _ hp _) (byteN_lt 0 (by decide) _), hlen]
theorem pow_bits : ∀ k : Nat, k < 56 → fold1 (byteN 0 ((1 : UInt8) <<< UInt8.ofNat (7 - k % 8))) (List.replicate (7 - 1 - k / 8) 0) = powN (62 - k) := by decide +kernel
theorem pow_low : ∀ t : Nat, t < 7 → powN t = 2 ^ t ∧ Fb.pc (powN t) = 1 := by decide +kernel
/-- A bit of seven bytes is changed. -/
theorem rem_flip (l : List UInt8) (k : Nat) (hl : l.length = 7) (hk : k < 56) : remL (flipAt l k) = remL l ^^^ powN (62 - k) := by
  unfold flipAt
  rw [rem_set l (k / 8) _ (by omega), hl, pow_bits k hk]
/-- The bits in which two bytes differ. -/
def bd (a b : UInt8) : Nat := Fb.pc (a.toNat ^^^ b.toNat)
def hd : List UInt8 → List UInt8 → Nat
  | a :: l, b :: m => bd a b + hd l m
  | _, _ => 0
theorem pc_add : ∀ a : Nat, a < 256 → ∀ b : Nat, b < 256 → Fb.pc (a ^^^ b) ≤ Fb.pc a + Fb.pc b := by decide +kernel
theorem pc_half : ∀ a : Nat, a < 256 → Fb.pc (a / 2) ≤ Fb.pc a := by decide +kernel
theorem bd_tri (a b c : UInt8) : bd a c ≤ bd a b + bd b c := by
  have h := pc_add (a.toNat ^^^ b.toNat) (by rw [← UInt8.toNat_xor]; exact UInt8.toNat_lt _) (b.toNat ^^^ c.toNat) (by rw [← UInt8.toNat_xor]; exact UInt8.toNat_lt _)
  unfold bd
  rwa [show (a.toNat ^^^ b.toNat) ^^^ (b.toNat ^^^ c.toNat) = a.toNat ^^^ c.toNat by rw [Nat.xor_assoc, ← Nat.xor_assoc b.toNat, Nat.xor_self, Nat.zero_xor]] at h
theorem bd_self (a : UInt8) : bd a a = 0 := by unfold bd; rw [Nat.xor_self]; rfl
theorem hd_self : ∀ l : List UInt8, hd l l = 0
  | [] => rfl
  | a :: l => by show bd a a + hd l l = 0; rw [bd_self, hd_self l]
theorem hd_tri : ∀ l m n : List UInt8, l.length = m.length → m.length = n.length → hd l n ≤ hd l m + hd m n
  | [], [], [], _, _ => by decide
  | a :: l, b :: m, c :: n, h1, h2 => by
    have := hd_tri l m n (by simpa using h1) (by simpa using h2)
    have := bd_tri a b c
    show bd a c + hd l n ≤ bd a b + hd l m + (bd b c + hd m n)
    omega
  | [], b :: m, _, h1, _ => by simp at h1
  | a :: l, [], _, h1, _ => by simp at h1
  | [], [], c :: n, _, h2 => by simp at h2
  | a :: l, b :: m, [], _, h2 => by simp at h2
theorem hd_append : ∀ l m l' m' : List UInt8, l.length = m.length → hd (l ++ l') (m ++ m') = hd l m + hd l' m'
  | [], [], _, _, _ => by simp [hd]
  | a :: l, b :: m, l', m', h => by
    show bd a b + hd (l ++ l') (m ++ m') = bd a b + hd l m + hd l' m'
    rw [hd_append l m l' m' (by simpa using h)]; omega
  | [], b :: m, _, _, h => by simp at h
  | a :: l, [], _, _, h => by simp at h
theorem hd_set (l : List UInt8) (j : Nat) (c : UInt8) (hj : j < l.length) : hd l (l.set j c) = bd (l.getD j 0) c := by
  induction l generalizing j with
  | nil => simp at hj
  | cons a l ih =>
    cases j with
    | zero => show bd a c + hd l l = _; rw [hd_self]; rfl
    | succ j =>
      show bd a a + hd l (l.set j c) = _
      rw [bd_self, ih j (by simpa using hj)]
      simp
theorem bit_one : ∀ r : Nat, r < 8 → Fb.pc (((1 : UInt8) <<< UInt8.ofNat (7 - r)).toNat) = 1 := by decide +kernel
theorem bd_bit (c : UInt8) (r : Nat) (hr : r < 8) : bd c (c ^^^ ((1 : UInt8) <<< UInt8.ofNat (7 - r))) = 1 := by
  unfold bd
  rw [UInt8.toNat_xor, ← Nat.xor_assoc, Nat.xor_self, Nat.zero_xor]
  exact bit_one r hr
theorem hd_flip (l : List UInt8) (k : Nat) (hk : k / 8 < l.length) : hd l (flipAt l k) = 1 := by
  unfold flipAt
  rw [hd_set l _ _ hk]
  exact bd_bit _ _ (by omega)
theorem par_tab : ∀ b : Nat, b < 256 → ((b ^^^ (254 - 2 * ((255 - b) / 2))) / 2 = 0) := by decide +kernel
theorem par_one : ∀ b : Nat, b < 256 → ∀ t : Nat, t < 7 → Fb.pc ((b ^^^ (254 - 2 * (((255 - b) / 2) ^^^ 2 ^ t))) / 2) = 1 := by decide +kernel
/-- A block that is taken lies within one bit (the last bit set aside). -/
theorem chk_near (l s : List UInt8) (n : Nat) (hl : l.length = 8) (h : chkL l = some (s, n)) : s.length = 7 ∧ hd (l.take 7) s + Fb.pc (((l.getD 7 0).toNat ^^^ (254 - 2 * remL s)) / 2) ≤ 1 := by
  have h7 : (l.take 7).length = 7 := by rw [List.length_take]; omega
  have hb := (l.getD 7 0).toNat_lt
  have hsyn : synN l = remL (l.take 7) ^^^ ((255 - (l.getD 7 0).toNat) / 2) := rfl
  refine ⟨chkL_len l s n hl h, ?_⟩
  unfold chkL at h
  split at h
  · rename_i h0
    injection h with h; injection h with h1 h2
    rw [hsyn] at h0
    have e : remL (l.take 7) = (255 - (l.getD 7 0).toNat) / 2 := by
      have h3 : (remL (l.take 7) ^^^ ((255 - (l.getD 7 0).toNat) / 2)) ^^^ ((255 - (l.getD 7 0).toNat) / 2) = (255 - (l.getD 7 0).toNat) / 2 := by rw [h0, Nat.zero_xor]
      rwa [Nat.xor_assoc, Nat.xor_self, Nat.xor_zero] at h3
    rw [← h1, hd_self, e, par_tab _ hb]
    decide
  · split at h
    · rename_i t ht
      injection h with h; injection h with h1 h2
      obtain ⟨hp, -, hmem, -⟩ := List.find?_eq_some_iff_getElem.1 ht
      have ht2 := List.mem_of_find?_eq_some ht
      rw [List.mem_range] at ht2
      have hpe : powN t = synN l := by simpa using hp
      rw [hsyn] at hpe
      by_cases hk : 62 - t < 56
      · rw [if_pos hk] at h1
        have hr := rem_flip (l.take 7) (62 - t) h7 hk
        rw [show 62 - (62 - t) = t by omega, hpe, ← Nat.xor_assoc, Nat.xor_self, Nat.zero_xor, h1] at hr
        rw [hr, par_tab _ hb, ← h1, hd_flip _ _ (by omega)]
        decide
      · rw [if_neg hk] at h1
        have ht7 : t < 7 := by omega
        have hr : remL (l.take 7) = ((255 - (l.getD 7 0).toNat) / 2) ^^^ 2 ^ t := by
          rw [← (pow_low t ht7).1, hpe, ← Nat.xor_assoc, Nat.xor_comm _ (remL _), Nat.xor_assoc, Nat.xor_self, Nat.xor_zero]
        rw [← h1, hd_self, hr, par_one _ hb t ht7]
        exact Nat.le_refl _
    · cases h
end
section
open Go.RowKit
def Good (p : List UInt8 × List UInt8) : Prop := p.1.length = 8 ∧ ∃ n, chkL p.1 = some (p.2, n)
def fsts (bs : List (List UInt8 × List UInt8)) : List UInt8 := (bs.map Prod.fst).flatten
def snds (bs : List (List UInt8 × List UInt8)) : List UInt8 := (bs.map Prod.snd).flatten
theorem fsts_snoc (bs : List (List UInt8 × List UInt8)) (p : List UInt8 × List UInt8) : fsts (bs ++ [p]) = fsts bs ++ p.1 := by simp [fsts]
theorem snds_snoc (bs : List (List UInt8 × List UInt8)) (p : List UInt8 × List UInt8) : snds (bs ++ [p]) = snds bs ++ p.2 := by simp [snds]
theorem good_snd (p : List UInt8 × List UInt8) (h : Good p) : p.2.length = 7 := by
  obtain ⟨h1, n, h2⟩ := h
  exact chkL_len _ _ _ h1 h2
theorem fsts_len (bs : List (List UInt8 × List UInt8)) (h : ∀ p ∈ bs, Good p) : (fsts bs).length = 8 * bs.length ∧ (snds bs).length = 7 * bs.length := by
  induction bs with
  | nil => exact ⟨rfl, rfl⟩
  | cons p bs ih =>
    obtain ⟨h1, h2⟩ := ih fun q hq => h q (List.mem_cons_of_mem _ hq)
    have hp := h p (by simp)
    have hp2 := good_snd p hp
    have e1 : fsts (p :: bs) = p.1 ++ fsts bs := rfl
    have e2 : snds (p :: bs) = p.2 ++ snds bs := rfl
    rw [e1, e2, List.length_append, List.length_append, h1, h2, hp.1, hp2, List.length_cons]
    omega
/-- What the parser has seen since it began to search. -/
def Run (s : Ps) (w : List UInt8) : Prop :=
  (s.begun = false ∧ s.data = [] ∧ s.block = [] ∧ (s.known = true → ∃ pre, w = pre ++ [s.last])) ∨
  (s.begun = true ∧ ∃ pre a b bs, w = pre ++ [a, b] ++ fsts bs ++ s.block ∧ startN a b = true ∧ (∀ p ∈ bs, Good p) ∧ s.data = snds bs)
/-- A unit's data that were found at the end of a string. -/
def Out (w d : List UInt8) : Prop := ∃ pre a b bs last, w = pre ++ [a, b] ++ fsts bs ++ last ∧ startN a b = true ∧ (∀ p ∈ bs, Good p) ∧ d = snds bs ∧ (last.length = 8 ∨ last = [] ∧ 350 ≤ d.length)
theorem run_search (s : Ps) (w : List UInt8) : Run (searchS s) w := .inl ⟨rfl, rfl, rfl, fun h => by cases h⟩
theorem run_step (s : Ps) (w : List UInt8) (c : UInt8) (hf : s.block.length < 8) (h : Run s w) : Run (stepP s c) (w ++ [c]) ∧
    ((stepP s c).found = s.found ∨ ∃ d : List UInt8, (stepP s c).found = s.found ++ [⟨d.toArray⟩] ∧ Out (w ++ [c]) d) := by
  rcases h with ⟨hb, hd, hk, hl⟩ | ⟨hb, pre, a, b, bs, hw, hst, hg, hd⟩
  · have hn : ¬ s.begun = true := by rw [hb]; simp
    unfold stepP
    rw [if_neg hn]
    split
    · rename_i hc
      simp only [Bool.and_eq_true] at hc
      obtain ⟨pre, hp⟩ := hl hc.1
      refine ⟨.inr ⟨rfl, pre, s.last, c, [], ?_, hc.2, (by intro p hp; cases hp), hd⟩, .inl rfl⟩
      show w ++ [c] = pre ++ [s.last, c] ++ [] ++ s.block
      rw [hk, hp]; simp
    · exact ⟨.inl ⟨hb, hd, hk, fun _ => ⟨w, rfl⟩⟩, .inl rfl⟩
  · have hlen : (s.block ++ [c]).length = s.block.length + 1 := by simp
    have hw2 : w ++ [c] = pre ++ [a, b] ++ fsts bs ++ (s.block ++ [c]) := by rw [hw]; simp
    unfold stepP
    rw [if_pos hb]
    split
    · exact ⟨.inr ⟨hb, pre, a, b, bs, hw2, hst, hg, hd⟩, .inl rfl⟩
    · rename_i hl8
      split
      · rename_i seven n hc
        have hgp : Good (s.block ++ [c], seven) := ⟨by show (s.block ++ [c]).length = 8; omega, n, hc⟩
        have hg2 : ∀ p ∈ bs ++ [(s.block ++ [c], seven)], Good p := by
          intro p hp
          rcases List.mem_append.1 hp with hp | hp
          · exact hg p hp
          · simp at hp; rw [hp]; exact hgp
        have hd2 : s.data ++ seven = snds (bs ++ [(s.block ++ [c], seven)]) := by rw [snds_snoc, hd]
        have hw3 : w ++ [c] = pre ++ [a, b] ++ fsts (bs ++ [(s.block ++ [c], seven)]) ++ [] := by rw [fsts_snoc, List.append_nil, ← List.append_assoc]; exact hw2
        split
        · exact ⟨.inr ⟨hb, pre, a, b, _, hw3, hst, hg2, hd2⟩, .inl rfl⟩
        · rename_i hn
          exact ⟨run_search _ _, .inr ⟨s.data ++ seven, rfl, pre, a, b, _, [], hw3, hst, hg2, hd2, .inr ⟨rfl, by omega⟩⟩⟩
      · split
        · exact ⟨run_search _ _, .inr ⟨s.data, rfl, pre, a, b, bs, s.block ++ [c], hw2, hst, hg, hd, .inl (by omega)⟩⟩
        · exact ⟨run_search _ _, .inl rfl⟩
theorem found_grow (s : Ps) (c : UInt8) : (stepP s c).found = s.found ∨ ∃ D, stepP s c = searchS (stepP s c) ∧ (stepP s c).found = s.found ++ [D] := by
  unfold stepP
  split
  · split
    · exact .inl rfl
    · split
      · split
        · exact .inl rfl
        · exact .inr ⟨_, rfl, rfl⟩
      · split
        · exact .inr ⟨_, rfl, rfl⟩
        · exact .inl rfl
  · split
    · exact .inl rfl
    · exact .inl rfl
theorem found_pre (u : List UInt8) : ∀ s : Ps, ∃ more, (feedP s u).found = s.found ++ more := by
  induction u with
  | nil => intro s; exact ⟨[], by simp [feedP]⟩
  | cons c u ih =>
    intro s
    obtain ⟨more, hm⟩ := ih (stepP s c)
    have e : feedP s (c :: u) = feedP (stepP s c) u := rfl
    rcases found_grow s c with h | ⟨D, _, h⟩
    · exact ⟨more, by rw [e, hm, h]⟩
    · exact ⟨D :: more, by rw [e, hm, h]; simp⟩
theorem outs2 (u : List UInt8) : ∀ (s : Ps) (w : List UInt8), s.fine → Run s w → ∀ (j : Nat) (D : ByteArray), s.found.length ≤ j → (feedP s u).found[j]? = some D → ∃ w1 w2, w ++ u = w1 ++ w2 ∧ Out w1 D.data.toList := by
  induction u with
  | nil =>
    intro s w _ _ j D hj h
    rw [show feedP s [] = s from rfl, List.getElem?_eq_none hj] at h
    cases h
  | cons c u ih =>
    intro s w hf hr j D hj h
    obtain ⟨h1, h2⟩ := run_step s w c hf.2.1 hr
    have e : feedP s (c :: u) = feedP (stepP s c) u := rfl
    rw [e] at h
    have hw : w ++ c :: u = (w ++ [c]) ++ u := by simp
    rw [hw]
    rcases h2 with h2 | ⟨d, h2, h3⟩
    · exact ih _ _ (stepP_fine s c hf).1 h1 j D (by rw [h2]; exact hj) h
    · by_cases hj2 : j = s.found.length
      · obtain ⟨more, hm⟩ := found_pre u (stepP s c)
        rw [hm, h2, hj2, List.append_assoc, List.getElem?_append_right (Nat.le_refl _), Nat.sub_self] at h
        injection h with h
        subst h
        exact ⟨w ++ [c], u, rfl, h3⟩
      · exact ih _ _ (stepP_fine s c hf).1 h1 j D (by rw [h2, List.length_append]; simp; omega) h
/-- What is found behind the first unit lies in the string whole, and not at its beginning. -/
theorem outs1 (u : List UInt8) : ∀ s : Ps, s.fine → s.found = [] → ∀ (j : Nat) (D : ByteArray), 1 ≤ j → (feedP s u).found[j]? = some D → ∃ x w1 w2, u = x ++ w1 ++ w2 ∧ 1 ≤ x.length ∧ Out w1 D.data.toList := by
  induction u with
  | nil =>
    intro s _ hs j D _ h
    rw [show feedP s [] = s from rfl, hs] at h
    cases h
  | cons c u ih =>
    intro s hf hs j D hj h
    have e : feedP s (c :: u) = feedP (stepP s c) u := rfl
    rw [e] at h
    rcases found_grow s c with h2 | ⟨D0, h2, h3⟩
    · obtain ⟨x, w1, w2, hu, hx, ho⟩ := ih _ (stepP_fine s c hf).1 (by rw [h2]; exact hs) j D hj h
      exact ⟨c :: x, w1, w2, by rw [hu]; simp, by simp, ho⟩
    · obtain ⟨w1, w2, hw, ho⟩ := outs2 u (stepP s c) [] (stepP_fine s c hf).1 (by rw [h2]; exact run_search _ _) j D (by rw [h3, hs]; simpa using hj) h
      exact ⟨[c], w1, w2, by rw [List.nil_append] at hw; rw [hw]; simp, by simp, ho⟩
end
section
open Go.RowKit
open Fb (pc)
theorem start_pc : ∀ X : Nat, X < 256 → ∀ Y : Nat, Y < 256 → ((X * 256 + Y) &&& (X * 256 + Y - 1) == 0) = true → pc X + pc Y ≤ 1 := by decide +kernel
theorem start_near (a b : UInt8) (h : startN a b = true) : hd [a, b] [235, 144] ≤ 1 := by
  have h1 := start_pc (a.toNat ^^^ 235) (by have := UInt8.toNat_lt (a ^^^ 235); rwa [UInt8.toNat_xor] at this) (b.toNat ^^^ 144) (by have := UInt8.toNat_lt (b ^^^ 144); rwa [UInt8.toNat_xor] at this) h
  show bd a 235 + (bd b 144 + 0) ≤ 1
  exact h1
theorem take_getD (u : List UInt8) (k n : Nat) (h : k + n ≤ u.length) : (u.drop k).take n = (List.range n).map fun i => u.getD (k + i) 0 := by
  refine List.ext_getElem (by simp; omega) fun i h1 h2 => ?_
  simp only [List.getElem_take, List.getElem_drop, List.getElem_map, List.getElem_range]
  rw [List.getD_eq_getElem?_getD, List.getElem?_eq_getElem (by simp at h2; omega)]
  rfl
theorem half_xor : ∀ a : Nat, a < 256 → ∀ b : Nat, b < 256 → (a ^^^ b) / 2 = (a / 2) ^^^ (b / 2) := by decide +kernel
theorem hf_tri (a b p : Nat) (ha : a < 256) (hb : b < 256) (hp : p < 256) : pc ((a ^^^ p) / 2) ≤ pc (a ^^^ b) + pc ((b ^^^ p) / 2) := by
  have hxa : ∀ x y : Nat, x < 256 → y < 256 → x ^^^ y < 256 := fun x y hx hy => Nat.xor_lt_two_pow (n := 8) hx hy
  have h1 := pc_add ((a ^^^ b) / 2) (by have := hxa a b ha hb; omega) ((b ^^^ p) / 2) (by have := hxa b p hb hp; omega)
  have h2 := pc_half (a ^^^ b) (hxa a b ha hb)
  have e : (a ^^^ p) / 2 = ((a ^^^ b) / 2) ^^^ ((b ^^^ p) / 2) := by
    rw [half_xor a ha p hp, half_xor a ha b hb, half_xor b hb p hp, Nat.xor_assoc, ← Nat.xor_assoc (b / 2), Nat.xor_self, Nat.zero_xor]
  rw [e]; omega
theorem hd_cut (l m : List UInt8) (hl : l.length = 8) (hm : m.length = 8) : hd l m = hd (l.take 7) (m.take 7) + bd (l.getD 7 0) (m.getD 7 0) := by
  match l, m, hl, hm with
  | [a0, a1, a2, a3, a4, a5, a6, a7], [b0, b1, b2, b3, b4, b5, b6, b7], _, _ => simp [hd]; omega
theorem block_cost (l blk s : List UInt8) (hl : l.length = 8) (hg : Good (blk, s)) : hd (l.take 7) s + pc (((l.getD 7 0).toNat ^^^ (254 - 2 * remL s)) / 2) ≤ hd l blk + 1 := by
  obtain ⟨h8, n, hc⟩ := hg
  have h8 : blk.length = 8 := h8
  obtain ⟨h7, hn⟩ := chk_near blk s n h8 hc
  have t1 := hd_tri (l.take 7) (blk.take 7) s (by simp [hl, h8]) (by simp [h8, h7])
  have hr := remL_lt s
  have t2 := hf_tri (l.getD 7 0).toNat (blk.getD 7 0).toNat (254 - 2 * remL s) (UInt8.toNat_lt _) (UInt8.toNat_lt _) (by omega)
  have t3 := hd_cut l blk hl h8
  unfold bd at t3
  omega
/-- The cost of the window. -/
theorem window (u u' X last : List UInt8) (a b : UInt8) (p q : List UInt8 × List UInt8) (bs : List (List UInt8 × List UInt8)) (hlen : u.length = u'.length) (hu : u' = X ++ [a, b] ++ fsts (p :: q :: bs) ++ last) (hst : startN a b = true) (hp : Good p) (hq : Good q) (h4 : hd u u' ≤ 4) :
    X.length + 18 ≤ u.length ∧ (hd ((u.drop X.length).take 2) [235, 144] - 1) + (hd ((u.drop (X.length + 2)).take 7) p.2 + pc (((u.getD (X.length + 9) 0).toNat ^^^ (254 - 2 * remL p.2)) / 2) - 1) + (hd ((u.drop (X.length + 10)).take 7) q.2 - 1) ≤ 4 := by
  have hp8 : p.1.length = 8 := hp.1
  have hq8 : q.1.length = 8 := hq.1
  have hu2 : u' = X ++ ([a, b] ++ (p.1 ++ (q.1 ++ (fsts bs ++ last)))) := by rw [hu]; simp [fsts]
  have hl2 : u.length = X.length + (2 + (8 + (8 + (fsts bs ++ last).length))) := by rw [hlen, hu2]; simp [hp8, hq8]; omega
  refine ⟨by omega, ?_⟩
  have e0 : u = u.take X.length ++ ((u.drop X.length).take 2 ++ ((u.drop (X.length + 2)).take 8 ++ ((u.drop (X.length + 10)).take 8 ++ u.drop (X.length + 18)))) := by
    have f : ∀ (k n : Nat), (u.drop k).take n ++ u.drop (k + n) = u.drop k := fun k n => by
      have := List.take_append_drop n (u.drop k)
      rwa [List.drop_drop] at this
    rw [f (X.length + 10) 8, f (X.length + 2) 8, f X.length 2, List.take_append_drop]
  have hs : ∀ k n, k + n ≤ u.length → ((u.drop k).take n).length = n := fun k n h => by simp; omega
  have hh : hd u u' = hd (u.take X.length) X + (hd ((u.drop X.length).take 2) [a, b] + (hd ((u.drop (X.length + 2)).take 8) p.1 + (hd ((u.drop (X.length + 10)).take 8) q.1 + hd (u.drop (X.length + 18)) (fsts bs ++ last)))) := by
    conv => lhs; rw [e0, hu2]
    rw [hd_append _ _ _ _ (by simp; omega), hd_append _ _ _ _ (by rw [hs _ _ (by omega)]; rfl), hd_append _ _ _ _ (by rw [hs _ _ (by omega), hp8]), hd_append _ _ _ _ (by rw [hs _ _ (by omega), hq8])]
  have c0 := hd_tri ((u.drop X.length).take 2) [a, b] [235, 144] (by rw [hs _ _ (by omega)]; rfl) rfl
  have c1 := start_near a b hst
  have c2 := block_cost ((u.drop (X.length + 2)).take 8) p.1 p.2 (hs _ _ (by omega)) hp
  have c3 := block_cost ((u.drop (X.length + 10)).take 8) q.1 q.2 (hs _ _ (by omega)) hq
  have g : ∀ k, k + 8 ≤ u.length → ((u.drop k).take 8).take 7 = (u.drop k).take 7 ∧ ((u.drop k).take 8).getD 7 0 = u.getD (k + 7) 0 := fun k h => by
    refine ⟨by rw [List.take_take]; rfl, ?_⟩
    rw [take_getD u k 8 h]; rfl
  rw [(g _ (by omega)).1, (g _ (by omega)).2] at c2
  rw [(g _ (by omega)).1] at c3
  rw [show X.length + 2 + 7 = X.length + 9 by omega] at c2
  omega
end
end Go.Proofs.YtgopighmifpefaaGreatDoor
