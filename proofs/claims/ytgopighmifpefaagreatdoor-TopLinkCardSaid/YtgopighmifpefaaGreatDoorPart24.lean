/- What is proved here: a part of the proof of TopLink (texts Lp Lq Fi14 Lr Lm Ls). No condition. -/
import Derived.Test.YtgopighmifpefaaGreatDoorPart10
import Derived.Test.YtgopighmifpefaaGreatDoorPart12
import Derived.Test.YtgopighmifpefaaGreatDoorPart13
import Derived.Test.YtgopighmifpefaaGreatDoorPart18
import Derived.Test.YtgopighmifpefaaGreatDoorPart19
import Derived.Test.YtgopighmifpefaaGreatDoorPart20
import Derived.Test.YtgopighmifpefaaGreatDoorPart23
set_option linter.unusedVariables false
set_option linter.unusedSimpArgs false
namespace Go.Proofs.YtgopighmifpefaaGreatDoor
section
open Go.RowKit
/-- The packet of count c with n bytes of data. -/
def pkB (c n : Nat) : ByteArray := ⟨(packetL c (rampL c n)).toArray⟩
theorem rampL_mod (c n : Nat) : rampL (c % 256) n = rampL c n := by
  unfold rampL
  refine List.map_congr_left fun i _ => ?_
  apply UInt8.toNat_inj.1
  simp
theorem rampL_drop (c n k : Nat) : (rampL c n).drop k = rampL (c + k) (n - k) := by
  refine List.ext_getElem (by simp [rampL]) fun i h1 h2 => ?_
  simp only [rampL, List.getElem_drop, List.getElem_map, List.getElem_range]
  congr 1; omega
theorem rampL_take (c n k : Nat) : (rampL c n).take k = rampL c (min k n) := by
  refine List.ext_getElem (by simp [rampL]) fun i h1 h2 => ?_
  simp [rampL]
theorem pk_list (c n : Nat) (hc : c < 768) (h1 : 1 ≤ n) (h2 : n ≤ 500) : (pkB c n).data.toList = [16, 0, UInt8.ofNat (192 + c / 256), UInt8.ofNat (c % 256), UInt8.ofNat ((n - 1) / 256), UInt8.ofNat ((n - 1) % 256)] ++ rampL c n := by
  show packetL c (rampL c n) = _
  unfold packetL
  rw [rampL_len]
  have e : wordsL [4096, 49152 + c, n - 1] = [UInt8.ofNat (4096 / 256), UInt8.ofNat (4096 % 256), UInt8.ofNat ((49152 + c) / 256), UInt8.ofNat ((49152 + c) % 256), UInt8.ofNat ((n - 1) / 256), UInt8.ofNat ((n - 1) % 256)] := rfl
  rw [e, show (49152 + c) / 256 = 192 + c / 256 by omega, show (49152 + c) % 256 = c % 256 by omega]
  rfl
theorem pk_size (c n : Nat) : (pkB c n).size = n + 6 := by
  have h : (packetL c (rampL c n)).length = n + 6 := by unfold packetL; rw [List.length_append, wordsL_len, rampL_len]; simp; omega
  show (packetL c (rampL c n)).toArray.size = _
  rw [List.size_toArray, h]
theorem seg_list (p : ByteArray) (most k : Nat) : (seg p most k).data.toList = segFlag p.size most k :: ((p.data.toList.drop (k * most)).take (min ((k + 1) * most) p.size - k * most)) := by
  unfold seg
  rw [ByteArray.data_append, Array.toList_append, ByteArray.data_extract, Array.toList_extract, List.extract_eq_take_drop]
  rfl
theorem segN_lt (n most k : Nat) (hm : 1 ≤ most) (hn : 1 ≤ n) (hk : k < segN n most) : k * most < n ∧ (k + 1 = segN n most ↔ n ≤ (k + 1) * most) := by
  obtain ⟨h1, h2, h3⟩ := segN_spec n most hm hn
  have a : k * most ≤ (segN n most - 1) * most := Nat.mul_le_mul_right _ (by omega)
  refine ⟨by omega, fun e => by rw [e]; exact h2, fun h => ?_⟩
  have b : segN n most < k + 2 := by
    rcases Nat.lt_or_ge (segN n most) (k + 2) with h' | h'
    · exact h'
    · have : (k + 1) * most ≤ (segN n most - 1) * most := Nat.mul_le_mul_right _ (by omega)
      omega
  omega
/-- A frame with a segment of the link. -/
def fr1 (seq : Int) (d : ByteArray) : Tc := ⟨1, 0, false, false, seq, d⟩
theorem enc_list (seq : Int) (d : ByteArray) (h1 : 0 ≤ seq) (h2 : seq ≤ 255) (hd : d.size ≤ 200) : (fr1 seq d).enc = [0, 1, 0, UInt8.ofNat (d.size + 6), UInt8.ofNat seq.toNat] ++ d.data.toList ++ be2 (sum16 ([0, 1, 0, UInt8.ofNat (d.size + 6), UInt8.ofNat seq.toNat] ++ d.data.toList)).toNat := by
  have e : (fr1 seq d).body = [0, 1, 0, UInt8.ofNat (d.size + 6), UInt8.ofNat seq.toNat] ++ d.data.toList := by
    unfold Tc.body fr1 Tc.headN Tc.sizeN
    have a : be2 ((1 : Int).toNat + (if false = true then 8192 else 0) + if false = true then 4096 else 0) = [0, 1] := rfl
    have b : be2 ((0 : Int).toNat * 1024 + (d.size + 6)) = [0, UInt8.ofNat (d.size + 6)] := by
      have e0 : (0 : Int).toNat * 1024 + (d.size + 6) = d.size + 6 := by simp
      rw [e0]
      unfold be2
      rw [show (d.size + 6) / 256 = 0 by omega]; rfl
    simp only [a, b]
    rfl
  unfold Tc.enc
  rw [e]
theorem fr_link (seq : Int) (c n most k : Nat) (h1 : 0 ≤ seq) (h2 : seq ≤ 255) (hc : c < 768) (hn1 : 1 ≤ n) (hn2 : n ≤ 500) (hm1 : 20 ≤ most) (hm2 : most ≤ 199) (hk : k < segN (n + 6) most) : Fr (fr1 seq (seg (pkB c n) most k)).enc ∧ 2 ≤ (seg (pkB c n) most k).size ∧ (seg (pkB c n) most k).size ≤ 200 := by
  obtain ⟨hk1, hk2⟩ := segN_lt (n + 6) most k (by omega) (by omega) hk
  have hk3 : (k + 1) * most = k * most + most := Nat.succ_mul _ _
  have hsl := seg_list (pkB c n) most k
  rw [pk_size] at hsl
  have hss : (seg (pkB c n) most k).size = (seg (pkB c n) most k).data.toList.length := by simp
  have hpl := pk_list c n hc hn1 hn2
  obtain ⟨len, hlen⟩ : ∃ len, len = min ((k + 1) * most) (n + 6) - k * most := ⟨_, rfl⟩
  rw [← hlen] at hsl
  have hsz : (seg (pkB c n) most k).size = len + 1 := by
    rw [hss, hsl, List.length_cons, List.length_take, List.length_drop]
    have : (pkB c n).data.toList.length = n + 6 := by rw [hpl]; simp [rampL_len]
    omega
  refine ⟨?_, by omega, by omega⟩
  have hseq : seq.toNat < 256 := by omega
  rw [enc_list seq _ h1 h2 (by omega), hsl, hsz]
  have hb2 : ∀ v : Nat, ∃ c1 c2, be2 v = [c1, c2] := fun v => ⟨_, _, rfl⟩
  by_cases hk0 : k = 0
  · subst hk0
    simp only [Nat.zero_mul, Nat.zero_add, Nat.one_mul, Nat.sub_zero] at hlen hk1 hk2
    have hpt : ((pkB c n).data.toList.drop (0 * most)).take len = [16, 0, UInt8.ofNat (192 + c / 256), UInt8.ofNat (c % 256), UInt8.ofNat ((n - 1) / 256), UInt8.ofNat ((n - 1) % 256)] ++ rampL (c % 256) (len - 6) := by
      rw [Nat.zero_mul, List.drop_zero, hpl, List.take_append, List.take_of_length_le (by simp; omega), rampL_take, rampL_mod]
      congr 2
      simp; omega
    rw [hpt]
    obtain ⟨c1, c2, hcc⟩ := hb2 (sum16 ([0, 1, 0, UInt8.ofNat (len + 1 + 6), UInt8.ofNat seq.toNat] ++ segFlag (n + 6) most 0 :: ([16, 0, UInt8.ofNat (192 + c / 256), UInt8.ofNat (c % 256), UInt8.ofNat ((n - 1) / 256), UInt8.ofNat ((n - 1) % 256)] ++ rampL (c % 256) (len - 6)))).toNat
    rw [hcc]
    have hfl : segFlag (n + 6) most 0 = UInt8.ofNat (64 + 128 * (if n + 6 ≤ most then 1 else 0)) := by
      unfold segFlag
      simp only [if_true, Nat.zero_add, Nat.one_mul]
      split <;> rfl
    rw [hfl]
    refine .inr ⟨seq.toNat, if n + 6 ≤ most then 1 else 0, c / 256, c % 256, (n - 1) / 256, (n - 1) % 256, len - 6, c1, c2, ?_, hseq, ?_, by omega, by omega, by omega, by omega, by omega⟩
    · unfold fe foE
      rw [show len - 6 + 13 = len + 1 + 6 by omega]
      simp
    · split
      · exact .inr ⟨rfl, by omega⟩
      · exact .inl ⟨rfl, by omega⟩
  · have hkm : 20 ≤ k * most := by
      have : 1 * most ≤ k * most := Nat.mul_le_mul_right _ (by omega)
      omega
    have hpt : ((pkB c n).data.toList.drop (k * most)).take len = rampL ((c + (k * most - 6)) % 256) len := by
      rw [hpl, List.drop_append, List.drop_of_length_le (by simp; omega), List.nil_append, rampL_drop, rampL_take, rampL_mod]
      have e1 : ([16, 0, UInt8.ofNat (192 + c / 256), UInt8.ofNat (c % 256), UInt8.ofNat ((n - 1) / 256), UInt8.ofNat ((n - 1) % 256)] : List UInt8).length = 6 := rfl
      rw [e1]
      congr 1; omega
    rw [hpt]
    obtain ⟨c1, c2, hcc⟩ := hb2 (sum16 ([0, 1, 0, UInt8.ofNat (len + 1 + 6), UInt8.ofNat seq.toNat] ++ segFlag (n + 6) most k :: rampL ((c + (k * most - 6)) % 256) len)).toNat
    have hfl : segFlag (n + 6) most k = UInt8.ofNat (128 * (if n + 6 ≤ (k + 1) * most then 1 else 0)) := by
      unfold segFlag
      rw [if_neg hk0]
      split <;> rfl
    rw [hcc]
    rw [hfl] at hcc ⊢
    have he : [0, 1, 0, UInt8.ofNat (len + 1 + 6), UInt8.ofNat seq.toNat] ++ UInt8.ofNat (128 * (if n + 6 ≤ (k + 1) * most then 1 else 0)) :: rampL ((c + (k * most - 6)) % 256) len ++ [c1, c2] = mlE seq.toNat (128 * (if n + 6 ≤ (k + 1) * most then 1 else 0)) ((c + (k * most - 6)) % 256) len c1 c2 := by
      unfold mlE
      rw [show len + 7 = len + 1 + 6 by omega]
      simp
    refine .inl ⟨seq.toNat, if n + 6 ≤ (k + 1) * most then 1 else 0, (c + (k * most - 6)) % 256, len, c1, c2, he, hseq, ?_, by omega, by omega, ?_⟩
    · split
      · exact .inr ⟨rfl, by omega⟩
      · exact .inl ⟨rfl, by omega⟩
    · rw [← hcc]
      congr 2
      rw [List.take_append_of_le_length (by simp [rampL_len]), List.take_of_length_le (by simp [rampL_len])]
end
section
open Go.RowKit
def segsP (c n m : Nat) : List ByteArray := segList (pkB c n) m (segN (n + 6) m)
def partsFrom : Nat → List (Nat × Nat) → List ByteArray
  | _, [] => []
  | c, (n, m) :: l => segsP c n m ++ partsFrom (c + 1) l
def sentFrom : Nat → List (Nat × Nat) → List ByteArray
  | _, [] => []
  | c, (n, _) :: l => pkB c n :: sentFrom (c + 1) l
def PkOk (pks : List (Nat × Nat)) : Prop := (∀ p ∈ pks, 1 ≤ p.1 ∧ p.1 ≤ 500 ∧ 20 ≤ p.2 ∧ p.2 ≤ 199) ∧ pks.length ≤ 700
theorem segsP_len (c n m : Nat) : (segsP c n m).length = segN (n + 6) m := by simp [segsP, segList]
theorem partsFrom_app (l l' : List (Nat × Nat)) : ∀ c, partsFrom c (l ++ l') = partsFrom c l ++ partsFrom (c + l.length) l' := by
  induction l with
  | nil => intro c; rfl
  | cons p l ih =>
    intro c
    obtain ⟨n, m⟩ := p
    show segsP c n m ++ partsFrom (c + 1) (l ++ l') = _
    rw [ih]
    show _ = (segsP c n m ++ partsFrom (c + 1) l) ++ _
    rw [List.append_assoc, List.length_cons, show c + 1 + l.length = c + (l.length + 1) by omega]
theorem sentFrom_app (l l' : List (Nat × Nat)) : ∀ c, sentFrom c (l ++ l') = sentFrom c l ++ sentFrom (c + l.length) l' := by
  induction l with
  | nil => intro c; rfl
  | cons p l ih =>
    intro c
    obtain ⟨n, m⟩ := p
    show pkB c n :: sentFrom (c + 1) (l ++ l') = _
    rw [ih]
    show _ = (pkB c n :: sentFrom (c + 1) l) ++ _
    rw [List.cons_append, List.length_cons, show c + 1 + l.length = c + (l.length + 1) by omega]
theorem sentFrom_len (l : List (Nat × Nat)) : ∀ c, (sentFrom c l).length = l.length := by
  induction l with
  | nil => intro c; rfl
  | cons p l ih => intro c; obtain ⟨n, m⟩ := p; show (sentFrom (c + 1) l).length + 1 = _; rw [ih]; rfl
theorem sentFrom_get (l : List (Nat × Nat)) : ∀ (c i n m : Nat), l[i]? = some (n, m) → (sentFrom c l)[i]? = some (pkB (c + i) n) := by
  induction l with
  | nil => intro c i n m h; cases h
  | cons p l ih =>
    intro c i n m h
    obtain ⟨n0, m0⟩ := p
    cases i with
    | zero => injection h with h; injection h with h1 h2; subst h1; rfl
    | succ i =>
      have := ih (c + 1) i n m (by simpa using h)
      show (sentFrom (c + 1) l)[i]? = _
      rw [this, show c + 1 + i = c + (i + 1) by omega]
/-- What the assembler holds behind N parts. -/
def AsmSt (pks : List (Nat × Nat)) (N came : Nat) (op : Bool) (xs : List UInt8) : Prop := came ≤ pks.length ∧ ∃ r, N = (partsFrom 0 (pks.take came)).length + r ∧
  (r = 0 ∧ op = false ∨ ∃ n m, pks[came]? = some (n, m) ∧ 0 < r ∧ r < segN (n + 6) m ∧ op = true ∧ xs = (pkB came n).data.toList.take (r * m))
theorem AsmSt.start (pks : List (Nat × Nat)) (xs : List UInt8) : AsmSt pks 0 0 false xs := ⟨Nat.zero_le _, 0, rfl, .inl ⟨rfl, rfl⟩⟩
theorem AsmSt.more {pks : List (Nat × Nat)} {N came : Nat} {op : Bool} {xs : List UInt8} (h : AsmSt pks N came op xs) (p : Nat × Nat) : AsmSt (pks ++ [p]) N came op xs := by
  obtain ⟨h1, r, h2, h3⟩ := h
  refine ⟨by simp; omega, r, by rw [List.take_append_of_le_length h1]; exact h2, ?_⟩
  rcases h3 with h3 | ⟨n, m, h4, h5⟩
  · exact .inl h3
  · have hlt : came < pks.length := by
      rcases Nat.lt_or_ge came pks.length with h | h
      · exact h
      · rw [List.getElem?_eq_none h] at h4; cases h4
    exact .inr ⟨n, m, by rw [List.getElem?_append_left hlt]; exact h4, h5⟩
theorem split_at (pks : List (Nat × Nat)) (c n m : Nat) (h : pks[c]? = some (n, m)) : partsFrom 0 pks = partsFrom 0 (pks.take c) ++ (segsP c n m ++ partsFrom (c + 1) (pks.drop (c + 1))) ∧ (partsFrom 0 (pks.take (c + 1))).length = (partsFrom 0 (pks.take c)).length + segN (n + 6) m := by
  obtain ⟨hlt, hg⟩ := List.getElem?_eq_some_iff.1 h
  have e : pks = pks.take c ++ (n, m) :: pks.drop (c + 1) := by rw [← hg]; simp
  have hl : (pks.take c).length = c := by rw [List.length_take]; omega
  constructor
  · conv => lhs; rw [e]
    rw [partsFrom_app, hl, Nat.zero_add]
    rfl
  · rw [List.take_succ_eq_append_getElem hlt, hg, partsFrom_app, hl, List.length_append]
    show _ + (segsP (0 + c) n m ++ []).length = _
    rw [List.append_nil, segsP_len]
theorem AsmSt.full {pks : List (Nat × Nat)} {N came : Nat} {op : Bool} {xs : List UInt8} (h : AsmSt pks N came op xs) (hok : PkOk pks) (hN : N = (partsFrom 0 pks).length) : came = pks.length := by
  obtain ⟨h1, r, h2, h3⟩ := h
  rcases Nat.lt_or_ge came pks.length with hlt | hge
  · exfalso
    have hg : pks[came]? = some (pks[came].1, pks[came].2) := by rw [List.getElem?_eq_getElem hlt]
    obtain ⟨e1, e2⟩ := split_at pks came _ _ hg
    have hp := hok.1 _ (List.getElem_mem hlt)
    have hs := (segN_spec (pks[came].1 + 6) pks[came].2 (by omega) (by omega)).2.2
    rw [e1, List.length_append, List.length_append, segsP_len] at hN
    rcases h3 with h3 | ⟨n, m, h4, h5, h6, _⟩
    · omega
    · rw [hg] at h4; injection h4 with h4; injection h4 with h7 h8
      subst h7 h8
      omega
  · omega
/-- What the assembler gives for a part that fits: is a packet whole, which, is one open, its bytes. -/
def asmF (xs s : List UInt8) : Bool × List UInt8 × Bool × List UInt8 :=
  if s.headD 0 = 64 then (false, [], true, s.drop 1) else if s.headD 0 = 192 then (true, s.drop 1, false, []) else if s.headD 0 = 128 then (true, xs ++ s.drop 1, false, []) else (false, [], true, xs ++ s.drop 1)
def GoodSeg (op : Bool) (xs s : List UInt8) : Prop := 2 ≤ s.length ∧ s.length ≤ 200 ∧ ((s.headD 0 = 64 ∨ s.headD 0 = 192) ∧ op = false ∨ (s.headD 0 = 0 ∨ s.headD 0 = 128) ∧ op = true ∧ xs.length + (s.length - 1) ≤ 1030)
theorem part_at {pks : List (Nat × Nat)} (hok : PkOk pks) (i : Nat) (hi : i < (partsFrom 0 pks).length) : ∃ c n m k, pks[c]? = some (n, m) ∧ k < segN (n + 6) m ∧ i = (partsFrom 0 (pks.take c)).length + k ∧ (partsFrom 0 pks)[i]? = some (seg (pkB c n) m k) := by
  have aux : ∀ (l : List (Nat × Nat)) (c0 i : Nat), i < (partsFrom c0 l).length → ∃ c n m k, l[c]? = some (n, m) ∧ k < segN (n + 6) m ∧ i = (partsFrom c0 (l.take c)).length + k ∧ (partsFrom c0 l)[i]? = some (seg (pkB (c0 + c) n) m k) := by
    intro l
    induction l with
    | nil => intro c0 i hi; simp [partsFrom] at hi
    | cons p l ih =>
      intro c0 i hi
      obtain ⟨n, m⟩ := p
      have e : partsFrom c0 ((n, m) :: l) = segsP c0 n m ++ partsFrom (c0 + 1) l := rfl
      rw [e, List.length_append, segsP_len] at hi
      by_cases h : i < segN (n + 6) m
      · refine ⟨0, n, m, i, rfl, h, by simp [partsFrom], ?_⟩
        rw [e, List.getElem?_append_left (by rw [segsP_len]; exact h)]
        simp [segsP, segList, h]
      · obtain ⟨c, n', m', k, h1, h2, h3, h4⟩ := ih (c0 + 1) (i - segN (n + 6) m) (by omega)
        refine ⟨c + 1, n', m', k, by simpa using h1, h2, ?_, ?_⟩
        · rw [List.take_succ_cons]
          show _ = (segsP c0 n m ++ partsFrom (c0 + 1) (l.take c)).length + k
          rw [List.length_append, segsP_len]; omega
        · rw [e, List.getElem?_append_right (by rw [segsP_len]; omega), segsP_len, h4, show c0 + 1 + c = c0 + (c + 1) by omega]
  obtain ⟨c, n, m, k, h1, h2, h3, h4⟩ := aux pks 0 i hi
  exact ⟨c, n, m, k, h1, h2, h3, by rw [h4, Nat.zero_add]⟩
theorem flag_cases (n m k : Nat) (hm : 1 ≤ m) (hn : 1 ≤ n) (hk : k < segN n m) : segFlag n m k = (if k = 0 then (if k + 1 = segN n m then 192 else 64) else (if k + 1 = segN n m then 128 else 0)) := by
  have h := (segN_lt n m k hm hn hk).2
  unfold segFlag
  by_cases h0 : k = 0 <;> by_cases h1 : n ≤ (k + 1) * m
  · rw [if_pos h0, if_pos h1, if_pos h0, if_pos (h.2 h1)]; rfl
  · rw [if_pos h0, if_neg h1, if_pos h0, if_neg (fun e => h1 (h.1 e))]; rfl
  · rw [if_neg h0, if_pos h1, if_neg h0, if_pos (h.2 h1)]; rfl
  · rw [if_neg h0, if_neg h1, if_neg h0, if_neg (fun e => h1 (h.1 e))]; rfl
theorem take_drop_take (l : List UInt8) (a b : Nat) : l.take a ++ (l.drop a).take b = l.take (a + b) := by
  rw [List.take_add]
/-- The next part comes. -/
theorem AsmSt.step {pks : List (Nat × Nat)} {N came : Nat} {op : Bool} {xs : List UInt8} (h : AsmSt pks N came op xs) (hok : PkOk pks) (s : ByteArray) (hs : (partsFrom 0 pks)[N]? = some s) :
    GoodSeg op xs s.data.toList ∧ ((asmF xs s.data.toList).1 = true → came < pks.length ∧ (sentFrom 0 pks)[came]? = some ⟨(asmF xs s.data.toList).2.1.toArray⟩) ∧
      AsmSt pks (N + 1) (if (asmF xs s.data.toList).1 then came + 1 else came) (asmF xs s.data.toList).2.2.1 (asmF xs s.data.toList).2.2.2 := by
  obtain ⟨h1, r, h2, h3⟩ := h
  obtain ⟨hNl, _⟩ := List.getElem?_eq_some_iff.1 hs
  have hlt : came < pks.length := by
    rcases Nat.lt_or_ge came pks.length with h | h
    · exact h
    · exfalso
      rw [List.take_of_length_le h] at h2
      rcases h3 with h3 | ⟨n, m, h4, _⟩
      · omega
      · rw [List.getElem?_eq_none h] at h4; cases h4
  obtain ⟨n, m, hg⟩ : ∃ n m, pks[came]? = some (n, m) := ⟨_, _, by rw [List.getElem?_eq_getElem hlt]⟩
  have hp := hok.1 (n, m) (List.mem_of_getElem? hg)
  obtain ⟨p1, p2, p3, p4⟩ := hp
  simp only at p1 p2 p3 p4
  obtain ⟨e1, e2⟩ := split_at pks came n m hg
  have hsp := segN_spec (n + 6) m (by omega) (by omega)
  have hr : r < segN (n + 6) m := by
    rcases h3 with h3 | ⟨n', m', h4, h5, h6, _⟩
    · omega
    · rw [hg] at h4; injection h4 with h4; injection h4 with h7 h8; subst h7 h8; exact h6
  have hse : s = seg (pkB came n) m r := by
    rw [e1, h2, List.getElem?_append_right (by omega), List.getElem?_append_left (by rw [segsP_len]; omega)] at hs
    simp [segsP, segList, hr] at hs
    exact hs.symm
  have hxs : xs = (pkB came n).data.toList.take (r * m) ∧ op = true ∧ 0 < r ∨ r = 0 ∧ op = false := by
    rcases h3 with h3 | ⟨n', m', h4, h5, h6, h7, h8⟩
    · exact .inr h3
    · rw [hg] at h4; injection h4 with h4; injection h4 with h9 h10; subst h9 h10; exact .inl ⟨h8, h7, h5⟩
  obtain ⟨hr1, hr2⟩ := segN_lt (n + 6) m r (by omega) (by omega) hr
  have hsl := seg_list (pkB came n) m r
  rw [pk_size] at hsl
  have hfl := flag_cases (n + 6) m r (by omega) (by omega) hr
  have hc7 : came < 768 := by have := hok.2; omega
  obtain ⟨_, z1, z2⟩ := fr_link 0 came n m r (by decide) (by decide) hc7 p1 p2 p3 p4 hr
  have hsz : (seg (pkB came n) m r).data.toList.length = (seg (pkB came n) m r).size := by simp
  have hpl : (pkB came n).data.toList.length = n + 6 := by have := pk_size came n; simpa using this
  have hrm : (r + 1) * m = r * m + m := Nat.succ_mul _ _
  obtain ⟨pay, hpay⟩ : ∃ pay, pay = ((pkB came n).data.toList.drop (r * m)).take (min ((r + 1) * m) (n + 6) - r * m) := ⟨_, rfl⟩
  rw [← hpay] at hsl
  rw [hse]
  have hlen := hsz
  rw [hsl] at hlen ⊢
  have hxp : (pkB came n).data.toList.take (r * m) ++ pay = (pkB came n).data.toList.take (min ((r + 1) * m) (n + 6)) := by
    rw [hpay, take_drop_take]; congr 1; omega
  have hpl2 : pay.length ≤ 199 := by simp only [List.length_cons] at hlen; omega
  have hd : ∀ f : UInt8, (f :: pay).headD 0 = f ∧ (f :: pay).drop 1 = pay := fun f => ⟨rfl, rfl⟩
  have whole : (pkB came n).data.toList.take (n + 6) = (pkB came n).data.toList := List.take_of_length_le (by omega)
  have hsent := sentFrom_get pks 0 came n m hg
  rw [Nat.zero_add] at hsent
  have g2 : 2 ≤ (segFlag (n + 6) m r :: pay).length ∧ (segFlag (n + 6) m r :: pay).length ≤ 200 := by rw [hlen]; exact ⟨z1, z2⟩
  have hxl : r ≠ 0 → xs.length ≤ 506 := fun h0 => by
    rcases hxs with ⟨hx, _⟩ | ⟨hx, _⟩
    · rw [hx, List.length_take]; omega
    · exact absurd hx h0
  by_cases hl : r + 1 = segN (n + 6) m
  · have hend : N + 1 = (partsFrom 0 (pks.take (came + 1))).length := by rw [e2]; omega
    have hmin : min ((r + 1) * m) (n + 6) = n + 6 := by have := hr2.1 hl; omega
    rw [hmin] at hxp
    by_cases h0 : r = 0
    · rw [if_pos h0, if_pos hl] at hfl
      rw [hfl] at g2 ⊢
      have hop : op = false := by rcases hxs with ⟨_, _, h⟩ | ⟨_, h⟩; omega; exact h
      refine ⟨⟨g2.1, g2.2, .inl ⟨.inr rfl, hop⟩⟩, fun _ => ⟨hlt, ?_⟩, ?_⟩
      · rw [hsent]
        have : pay = (pkB came n).data.toList := by rw [← whole, ← hxp, h0]; simp
        show some (pkB came n) = some ⟨pay.toArray⟩
        rw [this]
      · exact ⟨hlt, 0, hend, .inl ⟨rfl, rfl⟩⟩
    · rw [if_neg h0, if_pos hl] at hfl
      rw [hfl] at g2 ⊢
      have hx : xs = (pkB came n).data.toList.take (r * m) ∧ op = true := by rcases hxs with ⟨a, b, _⟩ | ⟨a, _⟩; exact ⟨a, b⟩; omega
      refine ⟨⟨g2.1, g2.2, .inr ⟨.inr rfl, hx.2, by have := hxl h0; omega⟩⟩, fun _ => ⟨hlt, ?_⟩, ?_⟩
      · rw [hsent]
        show some (pkB came n) = some ⟨(xs ++ pay).toArray⟩
        rw [hx.1, hxp, whole]
      · exact ⟨hlt, 0, hend, .inl ⟨rfl, rfl⟩⟩
  · have hmin : min ((r + 1) * m) (n + 6) = (r + 1) * m := by have := fun e => hl (hr2.2 e); omega
    rw [hmin] at hxp
    have hnext : ∀ ys, ys = (pkB came n).data.toList.take ((r + 1) * m) → AsmSt pks (N + 1) came true ys := fun ys hy => ⟨h1, r + 1, by omega, .inr ⟨n, m, hg, by omega, by omega, rfl, hy⟩⟩
    by_cases h0 : r = 0
    · rw [if_pos h0, if_neg hl] at hfl
      rw [hfl] at g2 ⊢
      have hop : op = false := by rcases hxs with ⟨_, _, h⟩ | ⟨_, h⟩; omega; exact h
      refine ⟨⟨g2.1, g2.2, .inl ⟨.inl rfl, hop⟩⟩, (fun hc => by cases hc), hnext pay ?_⟩
      rw [← hxp, h0]; simp
    · rw [if_neg h0, if_neg hl] at hfl
      rw [hfl] at g2 ⊢
      have hx : xs = (pkB came n).data.toList.take (r * m) ∧ op = true := by rcases hxs with ⟨a, b, _⟩ | ⟨a, _⟩; exact ⟨a, b⟩; omega
      refine ⟨⟨g2.1, g2.2, .inr ⟨.inl rfl, hx.2, by have := hxl h0; omega⟩⟩, (fun hc => by cases hc), hnext (xs ++ pay) ?_⟩
      rw [hx.1, hxp]
end
section
open Go.RowKit
def Clean (s : Ps) : Prop := s.begun = false ∧ s.known = false ∧ s.data = [] ∧ s.block = []
theorem clean_search (s : Ps) : Clean (searchS s) := ⟨rfl, rfl, rfl, rfl⟩
theorem Clean.fine {s : Ps} (h : Clean s) : s.fine := ⟨by rw [h.2.2.1]; decide, by rw [h.2.2.2]; decide, fun _ => ⟨h.2.2.1, h.2.2.2⟩⟩
theorem feed_part (l : List UInt8) : ∀ s : Ps, s.begun = true → s.block.length + l.length < 8 → feedP s l = { s with block := s.block ++ l } := by
  induction l with
  | nil => intro s _ _; simp [feedP]
  | cons c l ih =>
    intro s hb hl
    simp only [List.length_cons] at hl
    have e : stepP s c = { s with block := s.block ++ [c] } := by
      unfold stepP
      rw [if_pos hb, if_pos (by simp; omega)]
    show feedP (stepP s c) l = _
    rw [e, ih { s with block := s.block ++ [c] } hb (by simp; omega)]
    simp
theorem feed_block (s : Ps) (l seven : List UInt8) (n : Nat) (hb : s.begun = true) (hk : s.block = []) (hl : l.length = 8) (hc : chkL l = some (seven, n)) (hd : s.data.length + seven.length < 350) : feedP s l = { s with data := s.data ++ seven } := by
  have e : l = l.take 7 ++ [l.getD 7 0] := by
    match l, hl with
    | [a, b, c, d, e, f, g, h], _ => rfl
  rw [e, feedP_snoc, feed_part _ _ hb (by rw [hk]; simp; omega)]
  unfold stepP
  have e2 : ([] : List UInt8) ++ l.take 7 ++ [l.getD 7 0] = l := by rw [List.nil_append, ← e]
  simp only [hb, hk, if_true, e2]
  rw [if_neg (by omega), hc]
  simp only
  rw [if_pos (by simp; omega)]
theorem feed_end (s : Ps) (l : List UInt8) (hb : s.begun = true) (hk : s.block = []) (hl : l.length = 8) (hc : chkL l = none) (hd : 0 < s.data.length) : feedP s l = searchS { s with found := s.found ++ [⟨s.data.toArray⟩] } := by
  have e : l = l.take 7 ++ [l.getD 7 0] := by
    match l, hl with
    | [a, b, c, d, e, f, g, h], _ => rfl
  rw [e, feedP_snoc, feed_part _ _ hb (by rw [hk]; simp; omega)]
  unfold stepP
  have e2 : ([] : List UInt8) ++ l.take 7 ++ [l.getD 7 0] = l := by rw [List.nil_append, ← e]
  simp only [hb, hk, if_true, e2]
  rw [if_neg (by omega), hc]
  simp only
  rw [if_pos hd]
  rfl
theorem chk_block (l : List UInt8) (h : l.length = 7) : chkL (blockL l) = some (l, 0) := by
  have ht : (blockL l).take 7 = l := by unfold blockL; rw [← h, List.take_left]
  have hg : (blockL l).getD 7 0 = parN l := by
    unfold blockL
    rw [List.getD_eq_getElem?_getD, List.getElem?_append_right (by omega), h]; rfl
  have hr := remL_lt l
  have hs : synN (blockL l) = 0 := by
    unfold synN
    rw [ht, hg, parN_nat, show (255 - (254 - 2 * remL l)) / 2 = remL l by omega, Nat.xor_self]
  unfold chkL
  rw [if_pos hs, ht]
theorem chk_tail : chkL tailL = none := by decide +kernel
theorem feed_blocks (n : Nat) : ∀ (s : Ps) (l : List UInt8), s.begun = true → s.block = [] → l.length = 7 * n → s.data.length + 7 * n < 350 → feedP s (blocksN n l) = { s with data := s.data ++ l } := by
  induction n with
  | zero =>
    intro s l _ _ hl _
    have : l = [] := List.eq_nil_of_length_eq_zero (by omega)
    subst this
    simp [blocksN, feedP]
  | succ n ih =>
    intro s l hb hk hl hd
    have h7 : (l.take 7).length = 7 := by rw [List.length_take]; omega
    have h8 : (blockL (l.take 7)).length = 8 := by simp [blockL]; omega
    show feedP s (blockL (l.take 7) ++ blocksN n (l.drop 7)) = _
    rw [feedP_append, feed_block s _ _ 0 hb hk h8 (chk_block _ h7) (by omega), ih { s with data := s.data ++ l.take 7 } (l.drop 7) hb hk (by rw [List.length_drop]; omega) (by simp; omega)]
    simp
theorem feed_clean (s : Ps) (e : List UInt8) (hc : Clean s) (h1 : 1 ≤ e.length) (h2 : e.length ≤ 300) : Clean (feedP s (putL e)) ∧ (feedP s (putL e)).found = s.found ++ [⟨(padL e).toArray⟩] := by
  obtain ⟨c1, c2, c3, c4⟩ := hc
  have hp := pad_m e
  have hm : (padL e).length / 7 = mN e.length := by omega
  have hmN : e.length ≤ 7 * mN e.length ∧ 7 * mN e.length ≤ e.length + 6 := by unfold mN; omega
  have s1 : stepP s 235 = { s with known := true, last := 235 } := by
    unfold stepP
    rw [if_neg (by rw [c1]; simp), c2]
    rfl
  have s2 : stepP { s with known := true, last := 235 } 144 = { s with known := true, last := 235, begun := true } := by
    unfold stepP
    rw [if_neg (by simp [c1])]
    have : startN 235 144 = true := by decide
    simp [this]
  have e0 : feedP s (putL e) = feedP (feedP { s with known := true, last := 235, begun := true } (blocksN (mN e.length) (padL e))) tailL := by
    unfold putL
    rw [hm, feedP_append, feedP_append]
    show feedP (feedP (stepP (stepP s 235) 144) _) _ = _
    rw [s1, s2]
  rw [e0, feed_blocks (mN e.length) { s with known := true, last := 235, begun := true } _ rfl c4 hp (by rw [show ({ s with known := true, last := 235, begun := true } : Ps).data = s.data from rfl, c3]; simp; omega)]
  rw [feed_end { s with known := true, last := 235, begun := true, data := s.data ++ padL e } tailL rfl c4 rfl chk_tail (by simp; omega)]
  refine ⟨clean_search _, ?_⟩
  show s.found ++ [_] = _
  rw [c3]; simp
end
section
open Go.RowKit
/-- What Front finds. -/
def frontT (D : ByteArray) : Option Tc := if D.size < 5 ∨ D.size < frontN D then none else if (getP (D.extract 0 (frontN D))).2 = 0 then some (getP (D.extract 0 (frontN D))).1 else none
theorem frontT_some (D : ByteArray) (y : Tc) (h : frontT D = some y) : y.good = true ∧ ∃ rest, D.data.toList = y.enc ++ rest := by
  unfold frontT at h
  split at h
  · cases h
  · split at h
    · rename_i h1 h2
      injection h with h
      have h3 := getP_ok (D.extract 0 (frontN D)) y (Prod.ext h h2)
      refine ⟨h3.1, D.data.toList.drop (frontN D), ?_⟩
      rw [h3.2, ByteArray.data_extract, Array.toList_extract, List.extract_eq_take_drop]
      simp
    · cases h
/-- The link. -/
structure Ls where
  s : Fs
  f : Fm
  ps : Ps
  op : Bool
  xs : List UInt8
  sent : List ByteArray
  came : Nat
  frames : List Tc
  units : List ByteArray
  words : List Nat
  odd : Bool
  bad : Bool
  before : Tc
def unitOf (x : Tc) : ByteArray := ⟨(putL x.enc).toArray⟩
def partsP (pks : List (Nat × Nat)) : List ByteArray := partsFrom 0 pks
abbrev fr0 (n0 : Nat) (parts : List ByteArray) (i : Nat) : Tc := Lk.frOf n0 parts (some i)
def prOf (l : Ls) (parts : List ByteArray) (N b : Nat) (up : List Tc) : Lk.Pr := ⟨l.s, l.f, up, l.words, parts, parts.take N, b, 0⟩
/-- What always holds of the link while nothing odd has come. -/
structure LI (k n0 : Nat) (l : Ls) (pks : List (Nat × Nat)) (ups : List Nat) (dws : List Lk.Dw) (b N : Nat) (bo : Option Nat) : Prop where
  inv : Lk.Inv k n0 100 50 (prOf l (partsP pks) N b ((bo.toList ++ ups).map (fr0 n0 (partsP pks)))) ((bo.toList ++ ups).map some) dws b
  frames : l.frames = ups.map (fr0 n0 (partsP pks))
  units : l.units = l.frames.map unitOf
  hN : N ≤ (partsP pks).length
  byp : l.s.byp = []
  pk : PkOk pks
  sent : l.sent = sentFrom 0 pks
  asm : AsmSt pks N l.came l.op l.xs
  pf : l.ps.fine
  pd : l.ps.found = []
  odd : l.odd = false
  bad : l.bad = false
  bz : bo = none → l.before = Tc.zero
  bs : ∀ p, bo = some p → l.before = fr0 n0 (partsP pks) p
theorem fr0_eq (n0 : Nat) (parts : List ByteArray) (i : Nat) : fr0 n0 parts i = fr1 (((n0 + i : Nat) : Int) % 256) (parts.getD i ⟨#[]⟩) := rfl
theorem fr0_link {pks : List (Nat × Nat)} (hok : PkOk pks) (n0 i : Nat) (hi : i < (partsP pks).length) : Fr (fr0 n0 (partsP pks) i).enc ∧ (fr0 n0 (partsP pks) i).good = true ∧ 2 ≤ ((partsP pks).getD i ⟨#[]⟩).size ∧ ((partsP pks).getD i ⟨#[]⟩).size ≤ 200 := by
  obtain ⟨c, n, m, j, h1, h2, h3, h4⟩ := part_at hok i hi
  have hp := hok.1 (n, m) (List.mem_of_getElem? h1)
  obtain ⟨p1, p2, p3, p4⟩ := hp
  simp only at p1 p2 p3 p4
  obtain ⟨hc, _⟩ := List.getElem?_eq_some_iff.1 h1
  have hg : (partsP pks).getD i ⟨#[]⟩ = seg (pkB c n) m j := by unfold partsP; rw [List.getD_eq_getElem?_getD, h4]; rfl
  have := hok.2
  obtain ⟨a1, a2, a3⟩ := fr_link (((n0 + i : Nat) : Int) % 256) c n m j (by omega) (by omega) (by omega) p1 p2 p3 p4 h2
  rw [fr0_eq, hg]
  refine ⟨a1, ?_, a2, a3⟩
  rw [Tc.good_iff]
  refine ⟨⟨?_, ?_, ?_, ?_, ?_, ?_, by show 1 ≤ (seg (pkB c n) m j).size; omega, a3⟩, rfl⟩ <;> (simp only [fr1]; omega)
namespace Lk
/-- A frame has come; it is still counted as under way. -/
theorem Inv.arriveK {k n0 L : Nat} {tm : Int} {p : Pr} {ups : List (Option Nat)} {dws : List Dw} {b : Nat} (h : Inv k n0 L tm p ups dws b) (i : Nat) (us : List (Option Nat)) (hu : ups = some i :: us) :
    (takeF p.f (frOf n0 p.units (some i)) true).2.2 = 0 ∧ (takeF p.f (frOf n0 p.units (some i)) true).1.st.lockout = false ∧
    ((takeF p.f (frOf n0 p.units (some i)) true).2.1 = true → p.acc.length = i ∧ i < p.units.length) ∧
    Inv k n0 L tm { p with f := (takeF p.f (frOf n0 p.units (some i)) true).1, acc := if (takeF p.f (frOf n0 p.units (some i)) true).2.1 = true then p.acc ++ [p.units.getD i ⟨#[]⟩] else p.acc } ups dws b := by
  have hx : p.up = frOf n0 p.units (some i) :: us.map (frOf n0 p.units) := by rw [h.hup, hu]; rfl
  obtain ⟨a1, a2, a3, o, us', hu', a4⟩ := h.arrive _ _ hx true
  rw [hu] at hu'
  injection hu' with ho hus
  subst ho hus
  have hb : (frOf n0 p.units (some i)).byp = false := rfl
  have hd : (frOf n0 p.units (some i)).data = p.units.getD i ⟨#[]⟩ := rfl
  rw [hb, hd] at a4
  simp only [Bool.not_false, Bool.and_true] at a4
  have hi1 := h.u1 i (by rw [hu]; simp)
  have hi2 := h.u2 i (by rw [hu]; simp)
  have hsl := h.sl; have hbN := h.bN; have hNb := h.Nb; have hlen := h.len
  have hg := frOf_good n0 p.units i (by omega) h.uz
  have e := take_data p.f n0 k p.acc.length i p.units true h.hk h.fcraft h.fhalf h.fchan h.flock h.fnext hg hi2 (by omega)
  have hacc : (takeF p.f (frOf n0 p.units (some i)) true).2.1 = true → p.acc.length = i := by
    intro ht
    rw [e] at ht
    split at ht
    · rename_i hc; exact hc.symm
    · split at ht <;> cases ht
  refine ⟨a1, a4.flock, fun ht => ⟨hacc ht, by omega⟩, ?_⟩
  have hk := h.hk
  refine { a4 with hup := ?_, u1 := ?_, u2 := ?_, u3 := ?_, .. }
  · show p.up = ups.map _
    rw [h.hup]
  · intro j hj
    exact h.u1 j hj
  · intro j hj
    rw [hu] at hj
    rcases List.mem_cons.1 hj with hj | hj
    · injection hj with hj
      subst hj
      show (if _ then _ else _ : List ByteArray).length ≤ j + k
      split
      · rename_i ht
        have := hacc ht
        simp; omega
      · exact hi2
    · exact a4.u2 j hj
  · exact h.u3
end Lk
/-- What the link does with a frame on board. -/
def takeS (l : Ls) (y : Tc) : Ls :=
  if (takeF l.f y true).2.1 = true then { l with f := (takeF l.f y true).1, came := (if (asmF l.xs y.data.data.toList).1 then l.came + 1 else l.came), op := (asmF l.xs y.data.data.toList).2.2.1, xs := (asmF l.xs y.data.data.toList).2.2.2 }
  else { l with f := (takeF l.f y true).1 }
structure TakePre (l : Ls) (y : Tc) : Prop where
  ok : l.f.ok
  e : (takeF l.f y true).2.2 = 0
  lock : (takeF l.f y true).1.st.lockout = false
  half : (takeF l.f y true).1.half ≠ 0
  seg : (takeF l.f y true).2.1 = true → GoodSeg l.op l.xs y.data.data.toList ∧ ((asmF l.xs y.data.data.toList).1 = true → l.came < l.sent.length ∧ l.sent[l.came]? = some ⟨(asmF l.xs y.data.data.toList).2.1.toArray⟩)
section
variable {k n0 : Nat} {l : Ls} {pks : List (Nat × Nat)} {ups : List Nat} {dws : List Lk.Dw} {b N : Nat} {bo : Option Nat}
theorem LI.acc (h : LI k n0 l pks ups dws b N bo) : ((partsP pks).take N).length = N := by rw [List.length_take]; have := h.hN; omega
theorem LI.lt (h : LI k n0 l pks ups dws b N bo) (i : Nat) (hi : i ∈ bo.toList ++ ups) : i < (partsP pks).length := by
  have h1 := h.inv.u1 i (List.mem_map.2 ⟨i, hi, rfl⟩)
  have h2 := h.inv.len
  have e : (prOf l (partsP pks) N b ((bo.toList ++ ups).map (fr0 n0 (partsP pks)))).units = partsP pks := rfl
  rw [e] at h2
  omega
theorem LI.bN (h : LI k n0 l pks ups dws b N bo) : b ≤ N := by
  have h1 := h.inv.bN
  have h2 := h.acc
  have e : (prOf l (partsP pks) N b ((bo.toList ++ ups).map (fr0 n0 (partsP pks)))).acc = (partsP pks).take N := rfl
  rw [e] at h1
  omega
/-- The frame at the head of those that can still come is taken. -/
theorem LI.takeHead (h : LI k n0 l pks ups dws b N bo) (i : Nat) (us : List Nat) (up : List Tc) (hi : i < (partsP pks).length)
    (hI : Lk.Inv k n0 100 50 (prOf l (partsP pks) N b up) ((i :: us).map some) dws b) : TakePre l (fr0 n0 (partsP pks) i) ∧
    ∃ N', N' ≤ (partsP pks).length ∧ AsmSt pks N' (takeS l (fr0 n0 (partsP pks) i)).came (takeS l (fr0 n0 (partsP pks) i)).op (takeS l (fr0 n0 (partsP pks) i)).xs ∧
      Lk.Inv k n0 100 50 (prOf (takeS l (fr0 n0 (partsP pks) i)) (partsP pks) N' b up) ((i :: us).map some) dws b := by
  obtain ⟨a1, a2, a3, a4⟩ := hI.arriveK i (us.map some) rfl
  have hacc := h.acc
  have hfok := hI.fok
  have hdata : (fr0 n0 (partsP pks) i).data = (partsP pks).getD i ⟨#[]⟩ := rfl
  have e0 : (prOf l (partsP pks) N b up).f = l.f := rfl
  have e1 : (prOf l (partsP pks) N b up).units = partsP pks := rfl
  have e2 : (prOf l (partsP pks) N b up).acc = (partsP pks).take N := rfl
  rw [e0, e1] at a1 a2
  simp only [e0, e1, e2] at a3 a4
  rw [e0] at hfok
  have hhalf : (takeF l.f (fr0 n0 (partsP pks) i) true).1.half ≠ 0 := by
    have g1 : (takeF l.f (fr0 n0 (partsP pks) i) true).1.half = k := a4.fhalf
    have g2 := a4.hk
    omega
  have hget : (partsFrom 0 pks)[i]? = some ((partsP pks).getD i ⟨#[]⟩) := by
    show (partsP pks)[i]? = _
    rw [List.getD_eq_getElem?_getD, List.getElem?_eq_getElem hi]; rfl
  by_cases ht : (takeF l.f (fr0 n0 (partsP pks) i) true).2.1 = true
  · obtain ⟨hNi, _⟩ := a3 ht
    rw [hacc] at hNi
    subst hNi
    obtain ⟨g1, g2, g3⟩ := h.asm.step h.pk _ hget
    rw [← hdata] at g1 g2 g3
    refine ⟨⟨hfok, a1, a2, hhalf, fun _ => ⟨g1, fun hw => ?_⟩⟩, N + 1, by omega, ?_, ?_⟩
    · obtain ⟨w1, w2⟩ := g2 hw
      rw [h.sent, sentFrom_len]
      exact ⟨w1, w2⟩
    · unfold takeS
      rw [if_pos ht]
      exact g3
    · rw [if_pos ht] at a4
      have e3 : (partsP pks).take (N + 1) = (partsP pks).take N ++ [(partsP pks).getD N ⟨#[]⟩] := by
        rw [List.take_succ_eq_append_getElem hi, List.getD_eq_getElem?_getD, List.getElem?_eq_getElem hi]; rfl
      have e4 : prOf (takeS l (fr0 n0 (partsP pks) N)) (partsP pks) (N + 1) b up = { prOf l (partsP pks) N b up with f := (takeF l.f (fr0 n0 (partsP pks) N) true).1, acc := (partsP pks).take N ++ [(partsP pks).getD N ⟨#[]⟩] } := by
        unfold prOf takeS
        rw [if_pos ht, e3]
      rw [e4]
      exact a4
  · refine ⟨⟨hfok, a1, a2, hhalf, fun hc => absurd hc ht⟩, N, h.hN, ?_, ?_⟩
    · unfold takeS
      rw [if_neg ht]
      exact h.asm
    · rw [if_neg ht] at a4
      have e4 : prOf (takeS l (fr0 n0 (partsP pks) i)) (partsP pks) N b up = { prOf l (partsP pks) N b up with f := (takeF l.f (fr0 n0 (partsP pks) i) true).1, acc := (partsP pks).take N } := by
        unfold prOf takeS
        rw [if_neg ht]
      rw [e4]
      exact a4
end
end
section
open Go.RowKit
def Dj (a b : List Nat) : Prop := ∀ i ∈ a, i ∉ b
theorem Dj.symm {a b : List Nat} (h : Dj a b) : Dj b a := fun i hi hm => h i hm hi
theorem dj_get {l : List (List Nat)} (h : l.Pairwise Dj) (i j : Nat) (u v : List Nat) (hj : l[j]? = some u) (hi : l[i]? = some v) (hn : j ≠ i) : Dj u v := by
  obtain ⟨hj1, rfl⟩ := List.getElem?_eq_some_iff.1 hj
  obtain ⟨hi1, rfl⟩ := List.getElem?_eq_some_iff.1 hi
  rcases Nat.lt_or_gt_of_ne hn with e | e
  · exact List.pairwise_iff_getElem.1 h j i hj1 hi1 e
  · exact (List.pairwise_iff_getElem.1 h i j hi1 hj1 e).symm
theorem dj_set {l : List (List Nat)} (h : l.Pairwise Dj) (i : Nat) (v' : List Nat) (hv : ∀ (j : Nat) (u : List Nat), l[j]? = some u → j ≠ i → Dj u v') : (l.set i v').Pairwise Dj := by
  rw [List.pairwise_iff_getElem]
  intro a b ha hb hab
  rw [List.length_set] at ha hb
  have h0 := List.pairwise_iff_getElem.1 h a b ha hb hab
  rw [List.getElem_set, List.getElem_set]
  split
  · split
    · omega
    · rename_i e1 e2
      exact (hv b _ (List.getElem?_eq_getElem hb) (by omega)).symm
  · split
    · rename_i e1 e2
      exact hv a _ (List.getElem?_eq_getElem ha) (by omega)
    · exact h0
theorem grp {w W W' : World} {gf : Nat} {G : List (List Nat)} {s : Fs} {T : List Nat} (h : Fx w W gf G.flatten s) (hap : G.Pairwise Dj) (i : Nat) (g g' : List Nat) (hi : G[i]? = some g) (k : Keep T W W')
    (hT : ∀ x ∈ T, x ∈ g ∨ W.heap.size ≤ x) (hg : ∀ x ∈ g', (x ∈ g ∨ W.heap.size ≤ x) ∧ x < W'.heap.size) :
    Fx w W' gf (G.set i g').flatten s ∧ (G.set i g').Pairwise Dj ∧ ∀ (j : Nat) (u : List Nat), G[j]? = some u → j ≠ i → ∀ x ∈ u, x ∉ T := by
  have hlt := h.lt
  have hmem : ∀ (j : Nat) (u : List Nat), G[j]? = some u → ∀ x ∈ u, x ∈ G.flatten := fun j u hj x hx => List.mem_flatten.2 ⟨u, List.mem_of_getElem? hj, hx⟩
  refine ⟨h.swap k (fun x hx => ?_) (fun r hr => ?_), dj_set hap i g' (fun j u hj hn x hx hm => ?_), fun j u hj hn x hx hm => ?_⟩
  · rcases hT x hx with e | e
    · exact .inl (hmem i g hi x e)
    · exact .inr e
  · obtain ⟨u, hu, hru⟩ := List.mem_flatten.1 hr
    rcases List.mem_or_eq_of_mem_set hu with hu | rfl
    · have hm := List.mem_flatten.2 ⟨u, hu, hru⟩
      exact ⟨.inl hm, Nat.lt_of_lt_of_le (hlt r hm).2 k.size⟩
    · refine ⟨?_, (hg r hru).2⟩
      rcases (hg r hru).1 with e | e
      · exact .inl (hmem i g hi r e)
      · exact .inr e
  · have hl := (hlt x (hmem j u hj x hx)).2
    rcases (hg x hm).1 with e | e
    · exact dj_get hap i j u g hj hi hn x hx e
    · omega
  · have hl := (hlt x (hmem j u hj x hx)).2
    rcases hT x hm with e | e
    · exact dj_get hap i j u g hj hi hn x hx e
    · omega
/-- Where the link's parts lie. -/
structure Lc where
  L : Nat
  gf : Nat
  gg : Nat
  P : Nat
  A : Nat
  dv : Value
  kv : Value
  av : Value
  sv : Value
  fv : Value
  uv : Value
  wv : Value
def Lc.gs (c : Lc) : List (List Nat) := [[c.L], [c.gg], c.P :: (c.dv.ownBlock.toList ++ c.kv.ownBlock.toList), c.A :: c.av.ownBlock.toList, c.sv.ownBlock.toList, c.fv.ownBlock.toList, c.uv.ownBlock.toList, c.wv.ownBlock.toList]
def pt (g : Nat) : Value := .pointer (some ⟨g, 0, none⟩)
def lkCells (c : Lc) (l : Ls) : List Value := [pt c.gf, pt c.gg, pt c.P, pt c.A, c.sv, .int .i64 l.came, c.fv, c.uv, c.wv, .bool l.odd, .bool l.bad] ++ l.before.cells
/-- The link, made since w; the cells of its own block are cs. -/
structure LkM (w W : World) (c : Lc) (cs : List Value) (l : Ls) : Prop where
  blk : Blk W c.L cs 39
  fop : Fx w W c.gf c.gs.flatten l.s
  farm : Blk W c.gg l.f.cells 80
  par : PM W c.P c.dv c.kv (.slice none 0 0) l.ps
  asm : AsmV W c.A l.op c.av l.xs
  sent : QRow W 0 9 1 c.sv l.sent.length (stRow l.sent)
  frames : QRow W 0 37 6 c.fv l.frames.length (tcRow l.frames)
  units : QRow W 0 9 1 c.uv l.units.length (stRow l.units)
  words : QRow W 0 41 1 c.wv l.words.length (u32Row l.words)
  apart : c.gs.Pairwise Dj
/-- What a step may have changed of where the link lies. -/
structure LkTo (W W' : World) (c c' : Lc) : Prop where
  keep : Keep c.gs.flatten W W'
  new : ∀ x ∈ c'.gs.flatten, x ∈ c.gs.flatten ∨ W.heap.size ≤ x
  same : c'.L = c.L
theorem LkTo.refl {W : World} {c : Lc} : LkTo W W c c := ⟨Keep.refl _ _, fun _ h => .inl h, rfl⟩
theorem LkTo.trans {W W1 W2 : World} {c c1 c2 : Lc} (h : LkTo W W1 c c1) (k : LkTo W1 W2 c1 c2) : LkTo W W2 c c2 := by
  have hz := h.keep.size
  refine ⟨h.keep.trans_new k.keep h.new, fun x hx => ?_, k.same.trans h.same⟩
  rcases k.new x hx with e | e
  · exact h.new x e
  · exact .inr (by omega)
theorem LkTo.below {W W1 W2 : World} {c c1 : Lc} (h : LkTo W W1 c c1) (k : Below W1.heap.size W1 W2) : LkTo W W2 c c1 :=
  h.trans ⟨⟨k.os, k.tape, k.output, k.size, fun i hi _ => k.block i hi⟩, fun _ h => .inl h, rfl⟩
theorem LkTo.of {W W' : World} {c : Lc} {T : List Nat} (k : Keep T W W') (hT : ∀ x ∈ T, x ∈ c.gs.flatten ∨ W.heap.size ≤ x) : LkTo W W' c c :=
  ⟨⟨k.os, k.tape, k.output, k.size, fun i hi hn => k.block i hi fun hm => by
    rcases hT i hm with e | e
    · exact hn e
    · omega⟩, fun _ h => .inl h, rfl⟩
/-- Blocks that are not the link's. -/
def OutC (c : Lc) (W : World) (x : Nat) : Prop := x < W.heap.size ∧ x ∉ c.gs.flatten
theorem LkTo.out {W W' : World} {c c' : Lc} {x : Nat} (k : LkTo W W' c c') (h : OutC c W x) : OutC c' W' x ∧ W'.heap[x]? = W.heap[x]? := by
  refine ⟨⟨Nat.lt_of_lt_of_le h.1 k.keep.size, fun hm => ?_⟩, k.keep.block x h.1 h.2⟩
  rcases k.new x hm with e | e
  · exact h.2 e
  · have := h.1; omega
theorem row_same {W W' : World} {base : Nat} {v : Value} {xs : List UInt8} (h : Row W base v xs) (he : ∀ k, v.ownBlock = some k → W'.heap[k]? = W.heap[k]?) : Row W' base v xs := by
  rcases h with h | ⟨g, cap, cur, fr, hv, hb, hg, r⟩
  · exact .inl h
  · exact .inr ⟨g, cap, cur, fr, hv, hb, by rw [he g (by rw [hv]; rfl)]; exact hg, r⟩
section
variable {w W W' : World} {c : Lc} {cs cs' : List Value} {l : Ls}
theorem LkM.lt (h : LkM w W c cs l) : ∀ x ∈ c.gs.flatten, w.heap.size ≤ x ∧ x < W.heap.size := h.fop.lt
theorem Lc.inL (c : Lc) : c.L ∈ c.gs.flatten := List.mem_flatten.2 ⟨[c.L], by simp [Lc.gs], by simp⟩
theorem Lc.inG (c : Lc) : c.gg ∈ c.gs.flatten := List.mem_flatten.2 ⟨[c.gg], by simp [Lc.gs], by simp⟩
theorem Lc.inP (c : Lc) : ∀ x ∈ c.P :: (c.dv.ownBlock.toList ++ c.kv.ownBlock.toList), x ∈ c.gs.flatten := fun x hx => List.mem_flatten.2 ⟨_, by simp [Lc.gs], hx⟩
theorem Lc.inA (c : Lc) : ∀ x ∈ c.A :: c.av.ownBlock.toList, x ∈ c.gs.flatten := fun x hx => List.mem_flatten.2 ⟨_, by simp [Lc.gs], hx⟩
theorem Lc.inS (c : Lc) : ∀ x ∈ c.sv.ownBlock.toList, x ∈ c.gs.flatten := fun x hx => List.mem_flatten.2 ⟨c.sv.ownBlock.toList, by simp [Lc.gs], hx⟩
theorem Lc.inF (c : Lc) : ∀ x ∈ c.fv.ownBlock.toList, x ∈ c.gs.flatten := fun x hx => List.mem_flatten.2 ⟨c.fv.ownBlock.toList, by simp [Lc.gs], hx⟩
theorem Lc.inU (c : Lc) : ∀ x ∈ c.uv.ownBlock.toList, x ∈ c.gs.flatten := fun x hx => List.mem_flatten.2 ⟨c.uv.ownBlock.toList, by simp [Lc.gs], hx⟩
theorem Lc.inW (c : Lc) : ∀ x ∈ c.wv.ownBlock.toList, x ∈ c.gs.flatten := fun x hx => List.mem_flatten.2 ⟨c.wv.ownBlock.toList, by simp [Lc.gs], hx⟩
theorem LkM.gl (h : LkM w W c cs l) (hG : Gl w) : Gl W := hG.below h.fop.toBelow (Nat.le_refl _)
theorem LkM.own (h : LkM w W c cs l) (hG : Gl w) : POwn c.P c.dv c.kv (.slice none 0 0) := by
  intro i hi
  have h0 := hG.lt
  have : i ∈ c.gs.flatten := c.inP i (by simpa [Value.ownBlock] using hi)
  have := (h.lt i this).1
  omega
theorem LkM.below (h : LkM w W c cs l) (k : Below W.heap.size W W') : LkM w W' c cs l :=
  ⟨h.blk.below k h.blk.lt, h.fop.below k, h.farm.below k h.farm.lt, h.par.below k, h.asm.below k, q_below h.sent k (Nat.le_refl _), q_below h.frames k (Nat.le_refl _), q_below h.units k (Nat.le_refl _), q_below h.words k (Nat.le_refl _), h.apart⟩
theorem LkM.drew (h : LkM w W c cs l) : LkM w W.drew c cs l := h.below ((Below.refl _ _).drew)
/-- Behind a call of a method of the automaton on the ground. -/
theorem LkM.call (h : LkM w W c cs l) {s' : Fs} (hX : Fx w W' c.gf c.gs.flatten s') (hR : ∀ r ∈ c.gs.flatten, W'.heap[r]? = W.heap[r]?) : LkM w W' c cs { l with s := s' } := by
  have hP : ∀ r ∈ c.P :: (c.dv.ownBlock.toList ++ c.kv.ownBlock.toList), W'.heap[r]? = W.heap[r]? := fun r hr => hR r (c.inP r hr)
  have hd : ∀ k, c.dv.ownBlock = some k → W'.heap[k]? = W.heap[k]? := fun k hk => hP k (by simp [hk])
  have hk : ∀ k, c.kv.ownBlock = some k → W'.heap[k]? = W.heap[k]? := fun k hk => hP k (by simp [hk])
  exact ⟨h.blk.same (hR _ c.inL), hX, h.farm.same (hR _ c.inG), ⟨h.par.blk.same (hP _ (by simp)), q_same h.par.data hd, q_same h.par.block hk, q_same h.par.found (fun _ hx => by cases hx), h.par.apart⟩,
    ⟨h.asm.1.same (hR _ (c.inA _ (by simp))), row_same h.asm.2 (fun k hk => hR k (c.inA k (by simp [hk])))⟩, q_same h.sent (fun k hk => hR k (c.inS k (by simp [hk]))), q_same h.frames (fun k hk => hR k (c.inF k (by simp [hk]))), q_same h.units (fun k hk => hR k (c.inU k (by simp [hk]))), q_same h.words (fun k hk => hR k (c.inW k (by simp [hk]))), h.apart⟩
/-- Behind a call of a method of the automaton on board. -/
theorem LkM.board (h : LkM w W c cs l) {f' : Fm} (k : Keep [c.gg] W W') (hB : Blk W' c.gg f'.cells 80) : LkM w W' c cs { l with f := f' } := by
  obtain ⟨h1, h2, h3⟩ := grp h.fop h.apart 1 [c.gg] [c.gg] rfl k (fun x hx => .inl hx) (fun x hx => ⟨.inl hx, by simp at hx; subst hx; exact hB.lt⟩)
  have n := fun j u hj hn => h3 j u hj hn
  refine ⟨h.blk.keep k (n 0 _ rfl (by decide) _ (by simp)), h1, hB, h.par.keep k (n 2 _ rfl (by decide) _ (by simp)) (fun g hg => n 2 _ rfl (by decide) _ (by simp [hg])) (fun g hg => n 2 _ rfl (by decide) _ (by simp [hg])) (fun g hg => by cases hg),
    h.asm.keep k (n 3 _ rfl (by decide) _ (by simp)) (fun g hg => n 3 _ rfl (by decide) _ (by simp [hg])), q_keep h.sent k (fun g hg => n 4 _ rfl (by decide) _ (by simp [hg])), q_keep h.frames k (fun g hg => n 5 _ rfl (by decide) _ (by simp [hg])),
    q_keep h.units k (fun g hg => n 6 _ rfl (by decide) _ (by simp [hg])), q_keep h.words k (fun g hg => n 7 _ rfl (by decide) _ (by simp [hg])), h2⟩
/-- The link's own cells have changed. -/
theorem LkM.cells (h : LkM w W c cs l) {ca : Nat} {od ba : Bool} {be : Tc} (k : Keep [c.L] W W') (hB : Blk W' c.L cs' 39) : LkM w W' c cs' { l with came := ca, odd := od, bad := ba, before := be } := by
  obtain ⟨h1, h2, h3⟩ := grp h.fop h.apart 0 [c.L] [c.L] rfl k (fun x hx => .inl hx) (fun x hx => ⟨.inl hx, by simp at hx; subst hx; exact hB.lt⟩)
  have n := fun j u hj hn => h3 j u hj hn
  refine ⟨hB, h1, h.farm.keep k (n 1 _ rfl (by decide) _ (by simp)), h.par.keep k (n 2 _ rfl (by decide) _ (by simp)) (fun g hg => n 2 _ rfl (by decide) _ (by simp [hg])) (fun g hg => n 2 _ rfl (by decide) _ (by simp [hg])) (fun g hg => by cases hg),
    h.asm.keep k (n 3 _ rfl (by decide) _ (by simp)) (fun g hg => n 3 _ rfl (by decide) _ (by simp [hg])), q_keep h.sent k (fun g hg => n 4 _ rfl (by decide) _ (by simp [hg])), q_keep h.frames k (fun g hg => n 5 _ rfl (by decide) _ (by simp [hg])),
    q_keep h.units k (fun g hg => n 6 _ rfl (by decide) _ (by simp [hg])), q_keep h.words k (fun g hg => n 7 _ rfl (by decide) _ (by simp [hg])), h2⟩
/-- A cell of the link's own is written. -/
theorem LkM.poke (h : LkM w W c cs l) (i : Nat) (v : Value) : LkM w (W.setCell ⟨c.L, i, none⟩ v) c (cs.set i v) l :=
  h.cells (ca := l.came) (od := l.odd) (ba := l.bad) (be := l.before) ((Keep.refl _ _).setCell (.inl (by simp)) _) (h.blk.set i v)
theorem LkM.nums (h : LkM w W c cs l) {ca : Nat} {od ba : Bool} {be : Tc} : LkM w W c cs { l with came := ca, odd := od, bad := ba, before := be } :=
  ⟨h.blk, h.fop, h.farm, h.par, h.asm, h.sent, h.frames, h.units, h.words, h.apart⟩
theorem LkTo.poke (i : Nat) (v : Value) : LkTo W (W.setCell ⟨c.L, i, none⟩ v) c c :=
  LkTo.of (T := [c.L]) ((Keep.refl _ _).setCell (.inl (by simp)) _) (fun x hx => .inl (by simp at hx; subst hx; exact c.inL))
/-- Behind a call of the parser's method. -/
theorem LkM.parser (h : LkM w W c cs l) {dv' kv' v : Value} {ps' : Ps} (k : PTo W W' c.P c.dv c.kv (.slice none 0 0) dv' kv' v) (hM : PM W' c.P dv' kv' (.slice none 0 0) ps') (hf : Far (bv c.P) v ∧ Far dv' v ∧ Far kv' v) (hv : ∀ x, v.ownBlock = some x → x < W'.heap.size) :
    LkM w W' { c with dv := dv', kv := kv' } cs { l with ps := ps' } ∧ LkTo W W' c { c with dv := dv', kv := kv' } ∧ ∀ x, v.ownBlock = some x → OutC { c with dv := dv', kv := kv' } W' x := by
  have hlt := h.lt
  have kk : Keep (c.P :: (c.dv.ownBlock.toList ++ c.kv.ownBlock.toList)) W W' := by have := k.keep; simpa [Value.ownBlock] using this
  have hg : ∀ x ∈ c.P :: (dv'.ownBlock.toList ++ kv'.ownBlock.toList), (x ∈ c.P :: (c.dv.ownBlock.toList ++ c.kv.ownBlock.toList) ∨ W.heap.size ≤ x) ∧ x < W'.heap.size := by
    intro x hx
    rcases List.mem_cons.1 hx with e | e
    · subst e; exact ⟨.inl (by simp), hM.blk.lt⟩
    · rcases List.mem_append.1 e with e | e
      · have e : dv'.ownBlock = some x := by simpa using e
        refine ⟨?_, brow_lt hM.data x e⟩
        rcases k.md x e with e | e
        · exact .inl (by simp [e])
        · exact .inr e
      · have e : kv'.ownBlock = some x := by simpa using e
        refine ⟨?_, brow_lt hM.block x e⟩
        rcases k.mb x e with e | e
        · exact .inl (by simp [e])
        · exact .inr e
  obtain ⟨h1, h2, h3⟩ := grp h.fop h.apart 2 _ (c.P :: (dv'.ownBlock.toList ++ kv'.ownBlock.toList)) rfl kk (fun x hx => .inl hx) hg
  have n := fun j u hj hn => h3 j u hj hn
  have hnew : ∀ x ∈ ({ c with dv := dv', kv := kv' } : Lc).gs.flatten, x ∈ c.gs.flatten ∨ W.heap.size ≤ x := by
    intro x hx
    obtain ⟨u, hu, hx⟩ := List.mem_flatten.1 hx
    have hu' : u ∈ c.gs.set 2 (c.P :: (dv'.ownBlock.toList ++ kv'.ownBlock.toList)) := hu
    rcases List.mem_or_eq_of_mem_set hu' with hu | rfl
    · exact .inl (List.mem_flatten.2 ⟨u, hu, hx⟩)
    · rcases (hg x hx).1 with e | e
      · exact .inl (c.inP x e)
      · exact .inr e
  have kt := LkTo.of (c := c) kk (fun x hx => .inl (c.inP x hx))
  refine ⟨⟨h.blk.keep kk (n 0 _ rfl (by decide) _ (by simp)), h1, h.farm.keep kk (n 1 _ rfl (by decide) _ (by simp)), hM,
    h.asm.keep kk (n 3 _ rfl (by decide) _ (by simp)) (fun g hg => n 3 _ rfl (by decide) _ (by simp [hg])), q_keep h.sent kk (fun g hg => n 4 _ rfl (by decide) _ (by simp [hg])), q_keep h.frames kk (fun g hg => n 5 _ rfl (by decide) _ (by simp [hg])),
    q_keep h.units kk (fun g hg => n 6 _ rfl (by decide) _ (by simp [hg])), q_keep h.words kk (fun g hg => n 7 _ rfl (by decide) _ (by simp [hg])), h2⟩, ⟨kt.keep, hnew, rfl⟩, fun x hx => ⟨hv x hx, fun hm => ?_⟩⟩
  obtain ⟨u, hu, hm⟩ := List.mem_flatten.1 hm
  have hu' : u ∈ c.gs.set 2 (c.P :: (dv'.ownBlock.toList ++ kv'.ownBlock.toList)) := hu
  have hxn : W.heap.size ≤ x := by
    rcases k.mf x hx with e | e
    · cases e
    · exact e
  rcases List.mem_or_eq_of_mem_set hu' with hu | rfl
  · have := (hlt x (List.mem_flatten.2 ⟨u, hu, hm⟩)).2; omega
  · rcases List.mem_cons.1 hm with e | e
    · subst e; exact hf.1 _ rfl hx
    · rcases List.mem_append.1 e with e | e
      · exact hf.2.1 x (by simpa using e) hx
      · exact hf.2.2 x (by simpa using e) hx
/-- Behind a call of the assembler's method. -/
theorem LkM.feed (h : LkM w W c cs l) {av' : Value} {op' : Bool} {xs' : List UInt8} (k : AsmTo W W' c.A c.av av') (hA : AsmV W' c.A op' av' xs') : LkM w W' { c with av := av' } cs { l with op := op', xs := xs' } ∧ LkTo W W' c { c with av := av' } := by
  have hg : ∀ x ∈ c.A :: av'.ownBlock.toList, (x ∈ c.A :: c.av.ownBlock.toList ∨ W.heap.size ≤ x) ∧ x < W'.heap.size := by
    intro x hx
    rcases List.mem_cons.1 hx with e | e
    · subst e; exact ⟨.inl (by simp), hA.1.lt⟩
    · have e : av'.ownBlock = some x := by simpa using e
      refine ⟨?_, (row_lt hA.2 x e).2⟩
      rcases k.mv x e with e | e
      · exact .inl (by simp [e])
      · exact .inr e
  have kk := k.keep
  obtain ⟨h1, h2, h3⟩ := grp h.fop h.apart 3 _ (c.A :: av'.ownBlock.toList) rfl kk (fun x hx => .inl hx) hg
  have n := fun j u hj hn => h3 j u hj hn
  have kt := LkTo.of (c := c) kk (fun x hx => .inl (c.inA x hx))
  refine ⟨⟨h.blk.keep kk (n 0 _ rfl (by decide) _ (by simp)), h1, h.farm.keep kk (n 1 _ rfl (by decide) _ (by simp)), h.par.keep kk (n 2 _ rfl (by decide) _ (by simp)) (fun g hg => n 2 _ rfl (by decide) _ (by simp [hg])) (fun g hg => n 2 _ rfl (by decide) _ (by simp [hg])) (fun g hg => by cases hg), hA,
    q_keep h.sent kk (fun g hg => n 4 _ rfl (by decide) _ (by simp [hg])), q_keep h.frames kk (fun g hg => n 5 _ rfl (by decide) _ (by simp [hg])),
    q_keep h.units kk (fun g hg => n 6 _ rfl (by decide) _ (by simp [hg])), q_keep h.words kk (fun g hg => n 7 _ rfl (by decide) _ (by simp [hg])), h2⟩, ⟨kt.keep, fun x hx => ?_, rfl⟩⟩
  obtain ⟨u, hu, hx⟩ := List.mem_flatten.1 hx
  have hu' : u ∈ c.gs.set 3 (c.A :: av'.ownBlock.toList) := hu
  rcases List.mem_or_eq_of_mem_set hu' with hu | rfl
  · exact .inl (List.mem_flatten.2 ⟨u, hu, hx⟩)
  · rcases (hg x hx).1 with e | e
    · exact .inl (c.inA x e)
    · exact .inr e
/-- Rows. -/
theorem row_grp {v v' : Value} (hm : Mv W v v') (hl : ∀ k, v'.ownBlock = some k → k < W'.heap.size) : ∀ x ∈ v'.ownBlock.toList, (x ∈ v.ownBlock.toList ∨ W.heap.size ≤ x) ∧ x < W'.heap.size := by
  intro x hx
  have e : v'.ownBlock = some x := by simpa using hx
  refine ⟨?_, hl x e⟩
  rcases hm x e with e | e
  · exact .inl (by simp [e])
  · exact .inr e
theorem LkM.rowS (h : LkM w W c cs l) {v' : Value} {q : List ByteArray} (k : Keep c.sv.ownBlock.toList W W') (hm : Mv W c.sv v') (hQ : QRow W' 0 9 1 v' q.length (stRow q)) : LkM w W' { c with sv := v' } cs { l with sent := q } := by
  obtain ⟨h1, h2, h3⟩ := grp h.fop h.apart 4 _ v'.ownBlock.toList rfl k (fun x hx => .inl hx) (row_grp hm fun x hx => (q_lt hQ x hx).2)
  have n := fun j u hj hn => h3 j u hj hn
  exact ⟨h.blk.keep k (n 0 _ rfl (by decide) _ (by simp)), h1, h.farm.keep k (n 1 _ rfl (by decide) _ (by simp)), h.par.keep k (n 2 _ rfl (by decide) _ (by simp)) (fun g hg => n 2 _ rfl (by decide) _ (by simp [hg])) (fun g hg => n 2 _ rfl (by decide) _ (by simp [hg])) (fun g hg => by cases hg),
    h.asm.keep k (n 3 _ rfl (by decide) _ (by simp)) (fun g hg => n 3 _ rfl (by decide) _ (by simp [hg])), hQ, q_keep h.frames k (fun g hg => n 5 _ rfl (by decide) _ (by simp [hg])),
    q_keep h.units k (fun g hg => n 6 _ rfl (by decide) _ (by simp [hg])), q_keep h.words k (fun g hg => n 7 _ rfl (by decide) _ (by simp [hg])), h2⟩
theorem LkM.rowF (h : LkM w W c cs l) {v' : Value} {q : List Tc} (k : Keep c.fv.ownBlock.toList W W') (hm : Mv W c.fv v') (hQ : QRow W' 0 37 6 v' q.length (tcRow q)) : LkM w W' { c with fv := v' } cs { l with frames := q } := by
  obtain ⟨h1, h2, h3⟩ := grp h.fop h.apart 5 _ v'.ownBlock.toList rfl k (fun x hx => .inl hx) (row_grp hm fun x hx => (q_lt hQ x hx).2)
  have n := fun j u hj hn => h3 j u hj hn
  exact ⟨h.blk.keep k (n 0 _ rfl (by decide) _ (by simp)), h1, h.farm.keep k (n 1 _ rfl (by decide) _ (by simp)), h.par.keep k (n 2 _ rfl (by decide) _ (by simp)) (fun g hg => n 2 _ rfl (by decide) _ (by simp [hg])) (fun g hg => n 2 _ rfl (by decide) _ (by simp [hg])) (fun g hg => by cases hg),
    h.asm.keep k (n 3 _ rfl (by decide) _ (by simp)) (fun g hg => n 3 _ rfl (by decide) _ (by simp [hg])), q_keep h.sent k (fun g hg => n 4 _ rfl (by decide) _ (by simp [hg])), hQ,
    q_keep h.units k (fun g hg => n 6 _ rfl (by decide) _ (by simp [hg])), q_keep h.words k (fun g hg => n 7 _ rfl (by decide) _ (by simp [hg])), h2⟩
theorem LkM.rowU (h : LkM w W c cs l) {v' : Value} {q : List ByteArray} (k : Keep c.uv.ownBlock.toList W W') (hm : Mv W c.uv v') (hQ : QRow W' 0 9 1 v' q.length (stRow q)) : LkM w W' { c with uv := v' } cs { l with units := q } := by
  obtain ⟨h1, h2, h3⟩ := grp h.fop h.apart 6 _ v'.ownBlock.toList rfl k (fun x hx => .inl hx) (row_grp hm fun x hx => (q_lt hQ x hx).2)
  have n := fun j u hj hn => h3 j u hj hn
  exact ⟨h.blk.keep k (n 0 _ rfl (by decide) _ (by simp)), h1, h.farm.keep k (n 1 _ rfl (by decide) _ (by simp)), h.par.keep k (n 2 _ rfl (by decide) _ (by simp)) (fun g hg => n 2 _ rfl (by decide) _ (by simp [hg])) (fun g hg => n 2 _ rfl (by decide) _ (by simp [hg])) (fun g hg => by cases hg),
    h.asm.keep k (n 3 _ rfl (by decide) _ (by simp)) (fun g hg => n 3 _ rfl (by decide) _ (by simp [hg])), q_keep h.sent k (fun g hg => n 4 _ rfl (by decide) _ (by simp [hg])), q_keep h.frames k (fun g hg => n 5 _ rfl (by decide) _ (by simp [hg])),
    hQ, q_keep h.words k (fun g hg => n 7 _ rfl (by decide) _ (by simp [hg])), h2⟩
theorem LkM.rowW (h : LkM w W c cs l) {v' : Value} {q : List Nat} (k : Keep c.wv.ownBlock.toList W W') (hm : Mv W c.wv v') (hQ : QRow W' 0 41 1 v' q.length (u32Row q)) : LkM w W' { c with wv := v' } cs { l with words := q } := by
  obtain ⟨h1, h2, h3⟩ := grp h.fop h.apart 7 _ v'.ownBlock.toList rfl k (fun x hx => .inl hx) (row_grp hm fun x hx => (q_lt hQ x hx).2)
  have n := fun j u hj hn => h3 j u hj hn
  exact ⟨h.blk.keep k (n 0 _ rfl (by decide) _ (by simp)), h1, h.farm.keep k (n 1 _ rfl (by decide) _ (by simp)), h.par.keep k (n 2 _ rfl (by decide) _ (by simp)) (fun g hg => n 2 _ rfl (by decide) _ (by simp [hg])) (fun g hg => n 2 _ rfl (by decide) _ (by simp [hg])) (fun g hg => by cases hg),
    h.asm.keep k (n 3 _ rfl (by decide) _ (by simp)) (fun g hg => n 3 _ rfl (by decide) _ (by simp [hg])), q_keep h.sent k (fun g hg => n 4 _ rfl (by decide) _ (by simp [hg])), q_keep h.frames k (fun g hg => n 5 _ rfl (by decide) _ (by simp [hg])),
    q_keep h.units k (fun g hg => n 6 _ rfl (by decide) _ (by simp [hg])), hQ, h2⟩
end
/-- The link in memory. -/
def LkIn (w W : World) (L : Nat) (l : Ls) : Prop := ∃ c, c.L = L ∧ LkM w W c (lkCells c l) l
end
section
open Go.RowKit
section
variable {k n0 : Nat} {l : Ls} {pks : List (Nat × Nat)} {ups : List Nat} {dws : List Lk.Dw} {b N : Nat} {bo : Option Nat}
/-- A control word is sent. -/
theorem LI.word (h : LI k n0 l pks ups dws b N bo) : LI k n0 { l with words := l.words ++ [wordN 0 l.f.st.bypd.toNat ((n0 + N) % 256) false l.f.st.wait l.f.st.retx] } pks ups (dws ++ [⟨N, l.f.st.bypd.toNat, l.f.st.wait, l.f.st.retx⟩]) b N bo := by
  have h1 := h.inv.word
  have hacc := h.acc
  have e : (prOf l (partsP pks) N b ((bo.toList ++ ups).map (fr0 n0 (partsP pks)))).acc.length = N := hacc
  rw [e] at h1
  exact { h with inv := h1, .. }
theorem wordF_byp (s : Fs) (xn : Int) (xw xr : Bool) (kn : Nat) : (wordF s xn xw xr kn).byp = s.byp := by
  obtain ⟨tr, cl, ak, se, e, _⟩ := Lk.wordF_is s xn xw xr kn
  rw [e]
/-- A control word comes down. -/
theorem LI.hear {x : Lk.Dw} {ds : List Lk.Dw} (h : LI k n0 l pks ups (x :: ds) b N bo) :
    l.words = Lk.dwN n0 x :: ds.map (Lk.dwN n0) ∧ b ≤ x.n ∧ x.n ≤ N ∧ x.n - b ≤ l.s.sent.length ∧ x.bypd ≤ 3 ∧ (((n0 + x.n) % 256 : Nat) - l.s.base) % 256 = ((x.n - b : Nat) : Int) ∧
    (wordF l.s ((n0 + x.n) % 256 : Nat) x.wait x.retx (x.n - b)).events = (l.s.sent.take (x.n - b)).map ackEv ∧
    LI k n0 { l with s := { wordF l.s ((n0 + x.n) % 256 : Nat) x.wait x.retx (x.n - b) with events := [] }, words := ds.map (Lk.dwN n0) } pks ups ds x.n N bo := by
  obtain ⟨h1, h2, h3, h4, h5, h6⟩ := h.inv.hear x ds rfl
  have hacc := h.acc
  have hd := (h.inv.d1 x (by simp)).2.2
  refine ⟨h.inv.hdown, h1, ?_, h3, hd, h4, h5, { h with inv := h6, byp := ?_, .. }⟩
  · have : x.n ≤ ((partsP pks).take N).length := h2
    omega
  · show (wordF l.s _ _ _ _).byp = []
    rw [wordF_byp]; exact h.byp
theorem tickF_byp (s : Fs) (b : Int) (hb : s.byp = []) : (tickF s b).1.byp = [] := by
  unfold tickF
  split
  · exact hb
  · split
    · exact hb
    · split <;> exact hb
theorem nextF_byp (s : Fs) (hb : s.byp = []) : (nextF s).1.byp = [] ∧ ∀ x, (nextF s).2 = some x → x.byp = false := by
  unfold nextF
  rw [hb]
  simp only
  split
  · exact ⟨hb, fun x hx => by cases hx⟩
  · split
    · exact ⟨rfl, fun x hx => by injection hx with hx; rw [← hx]⟩
    · split
      · exact ⟨hb, fun x hx => by cases hx⟩
      · split
        · exact ⟨hb, fun x hx => by cases hx⟩
        · refine ⟨?_, fun x hx => by injection hx with hx; rw [← hx]⟩
          unfold newSent
          show (if _ then _ else _ : Fs).byp = []
          split <;> exact hb
/-- Time passes. -/
theorem LI.tick (h : LI k n0 l pks ups dws b N bo) (by_ : Int) (hb : 0 ≤ by_) : ((tickF l.s by_).2 = [] ∧ LI k n0 { l with s := (tickF l.s by_).1 } pks ups dws b N bo) ∨ (tickF l.s by_).2 = [⟨3, 0, 1⟩] := by
  rcases h.inv.tick by_ hb with ⟨h1, h2⟩ | h1
  · exact .inl ⟨h1, { h with inv := h2, byp := tickF_byp l.s by_ h.byp, .. }⟩
  · exact .inr h1
/-- The parts of a packet are sent. -/
theorem sends {tm : Int} {L : Nat} {ups : List (Option Nat)} (ds : List ByteArray) : ∀ p : Lk.Pr, Lk.Inv k n0 L tm p ups dws b → (∀ d ∈ ds, 1 ≤ d.size ∧ d.size ≤ 200) → p.s.waiting.length + ds.length ≤ 256 →
    Lk.Inv k n0 L tm { p with s := ds.foldl sendF p.s, units := p.units ++ ds } ups dws b := by
  induction ds with
  | nil => intro p h _ _; simpa using h
  | cons d ds ih =>
    intro p h hd hw
    have h1 := h.send d (hd d (by simp)) (by simp at hw; omega)
    have hw2 : (sendF p.s d).waiting.length = p.s.waiting.length + 1 := by show (p.s.waiting ++ [_]).length = _; simp
    have h2 := ih _ h1 (fun x hx => hd x (List.mem_cons_of_mem _ hx)) (by show (sendF p.s d).waiting.length + _ ≤ _; rw [hw2]; simp at hw; omega)
    simpa using h2
theorem sends_byp (ds : List ByteArray) : ∀ s : Fs, (ds.foldl sendF s).byp = s.byp := by
  induction ds with
  | nil => intro s; rfl
  | cons d ds ih => intro s; show (ds.foldl sendF (sendF s d)).byp = _; rw [ih]; rfl
theorem partsP_snoc (pks : List (Nat × Nat)) (n m : Nat) : partsP (pks ++ [(n, m)]) = partsP pks ++ segsP pks.length n m := by
  unfold partsP
  rw [partsFrom_app, Nat.zero_add]
  show _ ++ (segsP pks.length n m ++ []) = _
  rw [List.append_nil]
theorem fr0_more (n0 : Nat) (p q : List ByteArray) (i : Nat) (h : i < p.length) : fr0 n0 (p ++ q) i = fr0 n0 p i := by
  rw [fr0_eq, fr0_eq, List.getD_eq_getElem?_getD, List.getElem?_append_left h, List.getD_eq_getElem?_getD]
theorem LI.send (h : LI k n0 l pks ups dws b N bo) (n m : Nat) (h1 : 1 ≤ n) (h2 : n ≤ 500) (h3 : 20 ≤ m) (h4 : m ≤ 199) (h5 : pks.length < 700) (h6 : l.s.waiting.length + (segsP pks.length n m).length ≤ 256) :
    LI k n0 { l with s := (segsP pks.length n m).foldl sendF l.s, sent := l.sent ++ [pkB pks.length n] } (pks ++ [(n, m)]) ups dws b N bo := by
  have hds : ∀ d ∈ segsP pks.length n m, 1 ≤ d.size ∧ d.size ≤ 200 := by
    intro d hd
    simp only [segsP, segList, List.mem_map, List.mem_range] at hd
    obtain ⟨j, hj, rfl⟩ := hd
    obtain ⟨_, a, c⟩ := fr_link 0 pks.length n m j (by decide) (by decide) (by have := h.pk.2; omega) h1 h2 h3 h4 hj
    exact ⟨by omega, c⟩
  have hI := sends _ _ h.inv hds h6
  have hN := h.hN
  have hlt := h.lt
  have hup : (bo.toList ++ ups).map (fr0 n0 (partsP (pks ++ [(n, m)]))) = (bo.toList ++ ups).map (fr0 n0 (partsP pks)) := by
    refine List.map_congr_left fun i hi => ?_
    rw [partsP_snoc, fr0_more _ _ _ _ (hlt i hi)]
  have hup2 : ups.map (fr0 n0 (partsP (pks ++ [(n, m)]))) = ups.map (fr0 n0 (partsP pks)) := by
    refine List.map_congr_left fun i hi => ?_
    rw [partsP_snoc, fr0_more _ _ _ _ (hlt i (by simp [hi]))]
  have htk : (partsP (pks ++ [(n, m)])).take N = (partsP pks).take N := by rw [partsP_snoc, List.take_append_of_le_length hN]
  refine { h with inv := ?_, frames := ?_, hN := ?_, byp := ?_, pk := ?_, sent := ?_, asm := h.asm.more _, bs := ?_, .. }
  · have e : prOf { l with s := (segsP pks.length n m).foldl sendF l.s, sent := l.sent ++ [pkB pks.length n] } (partsP (pks ++ [(n, m)])) N b ((bo.toList ++ ups).map (fr0 n0 (partsP (pks ++ [(n, m)])))) = { prOf l (partsP pks) N b ((bo.toList ++ ups).map (fr0 n0 (partsP pks))) with s := (segsP pks.length n m).foldl sendF l.s, units := partsP pks ++ segsP pks.length n m } := by
      unfold prOf
      rw [hup, htk, partsP_snoc]
    rw [e]; exact hI
  · rw [hup2]; exact h.frames
  · rw [partsP_snoc, List.length_append]; omega
  · show ((segsP pks.length n m).foldl sendF l.s).byp = []
    rw [sends_byp]; exact h.byp
  · refine ⟨fun p hp => ?_, by simp; omega⟩
    rcases List.mem_append.1 hp with hp | hp
    · exact h.pk.1 p hp
    · simp at hp; subst hp; exact ⟨h1, h2, h3, h4⟩
  · show l.sent ++ [pkB pks.length n] = _
    rw [sentFrom_app, Nat.zero_add, h.sent]; rfl
  · intro p hp
    rw [partsP_snoc, fr0_more _ _ _ _ (hlt p (by rw [hp]; simp))]
    exact h.bs p hp
/-- The automaton on the ground gives a frame, or none. -/
theorem LI.next (h : LI k n0 l pks ups dws b N bo) : LI k n0 { l with s := (nextF l.s).1 } pks ups dws b N bo ∧
    ∀ x, (nextF l.s).2 = some x → ∃ i, x = fr0 n0 (partsP pks) i ∧ i < (partsP pks).length ∧ b ≤ i ∧ i < b + (nextF l.s).1.sent.length := by
  obtain ⟨h1, h2⟩ := h.inv.next
  have hbyp := nextF_byp l.s h.byp
  refine ⟨{ h with inv := h1, byp := hbyp.1, .. }, fun x hx => ?_⟩
  obtain ⟨o, ho, hr⟩ := h2 x hx
  cases o with
  | none =>
    have := hbyp.2 x hx
    rw [ho] at this
    cases this
  | some i =>
    obtain ⟨r1, r2⟩ := hr i rfl
    have r3 : i < b + (nextF l.s).1.sent.length := r2
    have hl := h1.len
    refine ⟨i, ho, ?_, r1, r2⟩
    have e : b + (nextF l.s).1.sent.length + (nextF l.s).1.waiting.length = (partsP pks).length := hl
    omega
theorem LI.push (h : LI k n0 l pks ups dws b N bo) (i : Nat) (h1 : b ≤ i) (h2 : i < b + l.s.sent.length) : LI k n0 { l with frames := l.frames ++ [fr0 n0 (partsP pks) i], units := l.units ++ [unitOf (fr0 n0 (partsP pks) i)] } pks (ups ++ [i]) dws b N bo := by
  have hp := h.inv.push (some i) (fun j hj => by injection hj with hj; subst hj; exact ⟨h1, h2⟩)
  refine { h with inv := ?_, frames := ?_, units := ?_, .. }
  · have e1 : (bo.toList ++ (ups ++ [i])).map (fr0 n0 (partsP pks)) = (bo.toList ++ ups).map (fr0 n0 (partsP pks)) ++ [fr0 n0 (partsP pks) i] := by simp
    have e2 : (bo.toList ++ (ups ++ [i])).map some = (bo.toList ++ ups).map some ++ [some i] := by simp
    rw [e1, e2]
    exact hp
  · show l.frames ++ _ = _
    rw [h.frames]; simp
  · show l.units ++ _ = _
    rw [h.units]; simp
end
end
end Go.Proofs.YtgopighmifpefaaGreatDoor
